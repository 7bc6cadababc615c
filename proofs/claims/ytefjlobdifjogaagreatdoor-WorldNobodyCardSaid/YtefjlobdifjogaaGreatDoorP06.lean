import Derived.WalkMore
import Derived.ScopeJumps
import Derived.Test.YtefjlobdifjogaaGreatDoorP05
open Go renaming wpQuiet_nil → lD
open Go.BinOp renaming or → lE, and → lG
open Go.Exit renaming jump → lB
open Go.IntKind renaming i64 → lF, u8 → lH, bits → lO
open Go.Proofs.Tryz renaming prog → lA, f144 → lC
open List renaming length_map → lL, length_drop → lM, getElem?_map → lP, getElem?_eq_getElem → lQ, drop_eq_nil_of_le → lR, map_cons → lS, map_nil → lT, take_succ_cons → lU, take_zero → lV, drop_succ_cons → lW, drop_zero → lX
open Nat renaming pow_succ → lJ, mul_le_mul_right → lK, pow_le_pow_right → lN
open Option renaming none → lI
namespace Go.Proofs.YtefjlobdifjogaaGreatDoor
section
set_option maxRecDepth 100000
set_option maxHeartbeats 16000000
open Go.Lib renaming hid → iD
open Go.Proofs.Tryz
open Go.RowKit
theorem Zd3:∀ k:Fin 256,bits lG lH ((k.1:Nat):Int) 127=((k.1 % 128:Nat):Int):=by decide +kernel
theorem Z6x(x:UInt8):bits lG lH (bv x) 127=((x.toNat % 128:Nat):Int):=Zd3 ⟨x.toNat,x.toNat_lt⟩
theorem Z6y(n:Int)(h₀:0<=n)(h₁:n<2 ^ 63):lF.wrap n=n:=by rw[IntKind.wrap_i64];omega
theorem Z3k(i sum v:Nat)(hi:i<9)(hs:sum<128 ^ i)(hv:v<128):bits lE lF ((sum:Nat):Int) ((v*128 ^ i:Nat):Int)=((sum+v*128 ^ i:Nat):Int):=by
 have e:(128:Nat) ^ i=2 ^ (7*i):=by rw[Nat.pow_mul]
 have h9:(128:Nat) ^ (i+1)<=128 ^ 9:=lN (by omega) (by omega);have h9':(128:Nat) ^ 9=2 ^ 63:=by decide
 rw[lJ] at h9;have h1:v*128 ^ i<2 ^ 63:=by
  have : v*128 ^ i<=127*128 ^ i:=lK _ (by omega);have hp:=Z3h i;omega
 have h2:sum<2 ^ 63:=by
  have hp:=Z3h i;omega
 rw[(bits_nat .i64 63 (by decide) Z6y sum (v*128 ^ i) h2 h1).2];rw[e] at hs ⊢;rw[Nat.or_comm,Nat.mul_comm v,<-Nat.two_pow_add_eq_or_of_lt hs v,Nat.add_comm]
theorem Z6z(w:World){P:Program}{o:Oper}{a:Act}{x y:Operand}{ty yt:TypeId}(ho:o.op=.binOp .shl ty x y yt)(v i:Nat)(hi:i<9)(hv:v<128)(hxe:a.eval x=.int .i64 ((v:Nat):Int))(hye:a.eval y=.int .i64 (7*(i:Int))) :
  (execOp a.eval o).run P w=.ok (.value (.int .i64 ((v*128 ^ i:Nat):Int))) w:=by
 have h0:(0:Int)<=7*(i:Int):=by omega
 have h9:(128:Nat) ^ (i+1)<=128 ^ 9:=lN (by omega) (by omega);have h9':(128:Nat) ^ 9=9223372036854775808:=by decide
 have e:lF.wrap ((v:Int)*2 ^ min (7*(i:Int)).toNat lF.bits)=((v*128 ^ i:Nat):Int):=by
  have e1:min (7*(i:Int)).toNat lF.bits=7*i:=by simp[lO];omega
  rw[e1];have e2:(v:Int)*2 ^ (7*i)=((v*128 ^ i:Nat):Int):=by
   rw[show (128:Nat) ^ i=2 ^ (7*i) by rw[Nat.pow_mul]];simp
  rw[e2];have h1:v*128 ^ i<=127*128 ^ i:=lK _ (by omega);have hp:=Z3h i;rw[lJ] at h9;exact Z6y _ (by omega) (by omega)
 have e1:min (7*(i:Int)).toNat lF.bits=7*i:=by simp[lO];omega
 rw[e1] at e
 push_cast at e
 simp[execOp,ho,hxe,hye,eqGuard,binOp];rw[show (7*(i:Int)).toNat=7*i by omega];exact e
def Q7(s:Str)(k:Nat)(e:Ending):Prop:=(∃ n r,Yw (s.drop k)=some (n,r)/\e=.returned (.tuple #[.int .i64 (n:Int),.int .i64 ((s.length - r.length:Nat):Int),.int .i64 0])) ∨ (Yw (s.drop k)=none/\∃ er:Nat,0<er/\er<100/\e=.returned (.tuple #[.int .i64 0,.int .i64 0,.int .i64 (er:Int)]))
theorem Q7.none{s:Str}{k er:Nat}(h:Yw (s.drop k)=none)(h0:0<er)(h1:er<100):Q7 s k (.returned (.tuple #[.int .i64 0,.int .i64 0,.int .i64 (er:Int)])):=.inr ⟨h,er,h0,h1,rfl⟩
theorem Z70{s:Str}{j i sum:Nat}(h:j<s.length):Kr i sum (s.drop j)=if 128<=s[j].toNat/\i+1=9 then none else if s[j].toNat=0/\0<i then none else if 128<=s[j].toNat then Kr (i+1) (sum+s[j].toNat % 128*128 ^ i) (s.drop (j+1)) else some (sum+s[j].toNat*128 ^ i,s.drop (j+1)):=by
 rw[List.drop_eq_getElem_cons h,Kr]
theorem Z1l(s:Str)(A:Option Addr)(c k:Nat)(w:World)(hR:Rd w (fun _=>True) A (s.map B))(hk:k<=s.length)(hs:s.length<=1099511627776) :
  Calls lA 144 #[.slice A s.length c,.int .i64 (k:Int)] w fun e w'=>Q7 s k e/\w'=w:=by
 replace hR:=iD hR;go_enter func144,ntmps144;go_wp2_with fail;refine wp_scope_jumps 0 (fun a' w'=>w'=w/\∃ (i sum:Nat) (u2 u3 u9 u10 u11 u12 u13 u14 u15 u16 u17 u18 u19 u20 u21 u22 u23 u24 u25 u26 u27 u28 u29 u30 u31 u32 u33 u34 u35 u36 u37 u38 u39 u40 u41 u42 u43 u44 u45 u46 u47 u48 u49 u50 u51 u52 u53 u54 u55 u56 u57 u58:Value),a'={ tmps:=#[.slice A s.length c,.int .i64 (k:Int),u2,u3,.int .i64 0,.int .i64 0,.int .i64 0,.int .i64 (i:Int),.int .i64 (sum:Int),u9,u10,u11,u12,u13,u14,u15,u16,u17,u18,u19,u20,u21,u22,u23,u24,u25,u26,u27,u28,u29,u30,u31,u32,u33,u34,u35,u36,u37,u38,u39,u40,u41,u42,u43,u44,u45,u46,u47,u48,u49,u50,u51,u52,u53,u54,u55,u56,u57,u58],defers:=[] }/\i<9/\k+i<=s.length/\sum<128 ^ i/\Yw (s.drop k)=Kr i sum (s.drop (k+i))) (fun a' _=>9 - (intOf (a'.tmps.getD 7 undef)).toNat) rfl ?_ ?_
 ·go_wp2_with fail;go_step3;by_cases hlt:k<s.length
  ·have hst:=Z70 (i:=0) (sum:=0) hlt;have hg:Yw (s.drop k)=Kr 0 0 (s.drop k):=rfl;obtain⟨b,o,rfl,_,_,hcell⟩:=hR.out.at (by rw[lL];omega);have hx:=s[k].toNat_lt;have c0:w.cell? ⟨b,o+k,none⟩=some (.int .u8 ((s[k].toNat:Nat):Int)):=hcell k _ (by rw[lP,lQ hlt];rfl);have hand:=Z6x s[k];unfold bv at hand;rw[hst] at hg;generalize s[k].toNat=x at hx c0 hand hg;have i0:(0:Int)<=(k:Int):=by omega
   have i1:(k:Int)<(s.length:Int):=by omega
   have hor:=Z3k 0 0 (x % 128) (by omega) (by omega) (by omega);rw[if_neg (by omega),if_neg (by omega)] at hg;simp only[Nat.pow_zero,Nat.mul_one,Nat.zero_add] at hor hg;clear hst hcell;by_cases hb:128<=x
   ·rw[if_pos hb] at hg;have hsum2:x % 128<128 ^ 1:=by omega
    obtain⟨m,hm⟩:∃ m,m=x % 128:=⟨_,rfl⟩;rw[<-hm] at hor hsum2 hg hand;replace hg:=iD hg;have hml:m<128:=by omega
    clear hm;replace hor:bits lE lF 0 (m:Int)=(m:Int):=by simpa using hor
    go_wp2_with fail;go_step3;exact⟨rfl,rfl,1,m,_,_,_,_,_,_,_,_,_,_,_,_,_,_,_,_,_,_,_,_,_,_,_,_,_,_,_,_,_,_,_,_,_,_,_,_,_,_,_,_,_,_,_,_,_,_,_,_,_,_,_,_,rfl,by omega,by omega,hsum2,hg.out⟩
   ·rw[if_neg hb] at hg;have hx128:x % 128=x:=by omega
    rw[hx128] at hor;have hres:Hid (Q7 s k (.returned (.tuple #[.int .i64 (x:Int),.int .i64 ((k:Int)+1),.int .i64 0]))):=iD (.inl ⟨x,_,hg,by rw[lM,show s.length - (s.length - (k+1))=k+1 by omega];rfl⟩);replace hor:bits lE lF 0 (x:Int)=(x:Int):=by simpa using hor
    replace hand:bits lG lH (x:Int) 127=(x:Int):=by rw[hand,hx128]
    clear hg hx128;have hd:((x:Int) == 0)=true ∨ ((x:Int) == 0)=false:=by cases h:((x:Int) == 0) <;> simp
    rcases hd with hd | hd;all_goals
     go_wp2_with fail;simp only[lB]
     change bodyPost _ lC _ _ _ _
     go_returns;exact⟨hres.out,rfl⟩
  ·have hnone:Yw (s.drop k)=none:=by rw[lR (by omega)];rfl
   have hres:=iD (Q7.none (er:=8) hnone (by omega) (by omega));clear hnone;go_wp2_with fail;simp only[lB]
   change bodyPost _ lC _ _ _ _
   go_returns;exact⟨hres.out,rfl⟩
 ·rintro a' w' ⟨rfl,i,sum,u2,u3,u9,u10,u11,u12,u13,u14,u15,u16,u17,u18,u19,u20,u21,u22,u23,u24,u25,u26,u27,u28,u29,u30,u31,u32,u33,u34,u35,u36,u37,u38,u39,u40,u41,u42,u43,u44,u45,u46,u47,u48,u49,u50,u51,u52,u53,u54,u55,u56,u57,u58,rfl,hi,hki,hsum,hg⟩;by_cases hlt:k+i<s.length
  ·have hst:=Z70 (i:=i) (sum:=sum) hlt;obtain⟨b,o,rfl,_,_,hcell⟩:=hR.out.at (by rw[lL];omega);have hx:=s[k+i].toNat_lt;have c0:w'.cell? ⟨b,o+(k+i),none⟩=some (.int .u8 ((s[k+i].toNat:Nat):Int)):=hcell (k+i) _ (by rw[lP,lQ hlt];rfl);have hand:=Z6x s[k+i];unfold bv at hand;rw[hst] at hg;rw[show k+i+1=k+(i+1) by omega] at hg;generalize s[k+i].toNat=x at hx c0 hand hg;have i0:(0:Int)<=((k+i:Nat):Int):=by omega
   have i1:((k+i:Nat):Int)<(s.length:Int):=by omega
   clear hst hcell;by_cases hb:128<=x
   ·by_cases h9:i+1=9
    ·have hres:=iD (Q7.none (er:=9) (by rw[hg,if_pos ⟨hb,h9⟩]) (by omega) (by omega));clear hg hand;go_wp2_with fail;simp only[lB]
     change bodyPost _ lC _ _ _ _
     go_returns;exact⟨hres.out,rfl⟩
    ·rw[if_neg (by omega),if_neg (by omega),if_pos hb] at hg;have hor:=Z3k i sum (x % 128) hi hsum (by omega);have hsum2:sum+x % 128*128 ^ i<128 ^ (i+1):=by
      rw[lJ];have : x % 128*128 ^ i<=127*128 ^ i:=lK _ (by omega);omega
     obtain⟨m,hm⟩:∃ m,m=sum+x % 128*128 ^ i:=⟨_,rfl⟩;rw[<-hm] at hor hsum2 hg;replace hor:bits lE lF (sum:Int) ((x:Int) % 128*128 ^ i)=(m:Int):=by rw[<-hor];push_cast;rfl
     replace hg:=iD hg;clear hm;go_wp2_with (first
      | (refine Y2 _ rfl rfl _ (Z6z _ rfl (x % 128) i hi (by omega) rfl rfl) ?_;go_frame)
      | fail)
     go_step3;refine⟨rfl,⟨rfl,i+1,m,_,_,_,_,_,_,_,_,_,_,_,_,_,_,_,_,_,_,_,_,_,_,_,_,_,_,_,_,_,_,_,_,_,_,_,_,_,_,_,_,_,_,_,_,_,_,_,_,_,_,_,_,rfl,by omega,by omega,hsum2,hg.out⟩,?_⟩;simp[intOf];omega
   ·by_cases h0:x=0/\0<i
    ·have hres:=iD (Q7.none (er:=7) (by rw[hg,if_neg (by omega),if_pos h0]) (by omega) (by omega));obtain⟨rfl,hi0⟩:=h0;clear hg hand;go_wp2_with fail;simp only[lB]
     change bodyPost _ lC _ _ _ _
     go_returns;exact⟨hres.out,rfl⟩
    ·rw[if_neg (by omega),if_neg h0,if_neg hb] at hg;have hor:=Z3k i sum (x % 128) hi hsum (by omega);have hx128:x % 128=x:=by omega
     obtain⟨m,hm⟩:∃ m,m=sum+x % 128*128 ^ i:=⟨_,rfl⟩;rw[hx128] at hm;rw[<-hm] at hg;rw[hx128,<-hm] at hor;have hres:Hid (Q7 s k (.returned (.tuple #[.int .i64 (m:Int),.int .i64 ((k:Int)+((i:Int)+1)),.int .i64 0]))):=iD (.inl ⟨m,_,hg,by rw[lM,show s.length - (s.length - (k+(i+1)))=k+(i+1) by omega];rfl⟩);replace hor:bits lE lF (sum:Int) ((x:Int)*128 ^ i)=(m:Int):=by
      rw[<-hor]
      push_cast
      rfl
     replace hand:bits lG lH (x:Int) 127=(x:Int):=by rw[hand,hx128]
     have hxl:x<128:=by omega
     clear hm hg hx128;have hd:(((x:Int) == 0)=true/\decide (0<i)=false) ∨ ((x:Int) == 0)=false:=by
      by_cases hx0:x=0
      ·left;constructor <;> simp <;> omega
      ·right;simp;omega
     rcases hd with ⟨hd1,hd2⟩ | hd1;all_goals
      clear h0;go_wp2_with (first
       | (refine Y2 _ rfl rfl _ (Z6z _ rfl x i hi hxl rfl rfl) ?_;go_frame)
       | fail)
      simp only[lB]
      change bodyPost _ lC _ _ _ _
      go_returns;exact⟨hres.out,rfl⟩
  ·have hnone:Yw (s.drop k)=none:=by rw[hg,lR (by omega)];rfl
   have hres:=iD (Q7.none (er:=8) hnone (by omega) (by omega));clear hg hnone;go_wp2_with fail;simp only[lB]
   change bodyPost _ lC _ _ _ _
   go_returns;exact⟨hres.out,rfl⟩
end
section
set_option maxRecDepth 100000
set_option maxHeartbeats 8000000
open Go.Lib renaming hid → iD
open Go.Proofs.Tryz
open Go.RowKit
theorem Z3l{s p r:Str}{k:Nat}(h:s.drop k=p++r):r=s.drop (s.length - r.length)/\r.length<=s.length:=by
 have e:s=(s.take k++p)++r:=by rw[List.append_assoc,<-h,List.take_append_drop]
 have hl:s.length=(s.take k++p).length+r.length:=by
  have:=congrArg List.length e
  rwa [List.length_append] at this
 refine⟨?_,by omega⟩;have h2:s.length - r.length=(s.take k++p).length:=by omega
 generalize s.take k++p=q at e h2;rw[h2,e,List.drop_left]
def Qv(s:Str)(k:Nat)(e:Ending):Prop:=(∃ t r,Yy 1 131072 (s.drop k)=some (t,r)/\e=.returned (.tuple #[Z1 t,.int .i64 ((s.length - r.length:Nat):Int),.int .i64 0])) ∨ (Yy 1 131072 (s.drop k)=none/\∃ er:Nat,0<er/\er<100/\e=.returned (.tuple #[.string ⟨#[]⟩,.int .i64 0,.int .i64 (er:Int)]))
theorem Qv.none{s:Str}{k er:Nat}(h:Yy 1 131072 (s.drop k)=none)(h0:0<er)(h1:er<100):Qv s k (.returned (.tuple #[.string ⟨#[]⟩,.int .i64 0,.int .i64 (er:Int)])):=.inr ⟨h,er,h0,h1,rfl⟩
theorem Z3m(s:Str)(A:Option Addr)(c k:Nat)(w:World)(hR:Rd w (fun _=>True) A (s.map B))(hk:k<=s.length)(hs:s.length<=1099511627776)(hc:s.length<=c) :
    Calls lA 145 #[.slice A s.length c,.int .i64 (k:Int)] w fun e w'=>Qv s k e/\w'=w:=by
  have hg:=Z1l s A c k w hR hk hs;have hgb:Yy 1 131072 (s.drop k)=match Yw (s.drop k) with | lI=>lI | some (n,r)=>if 131072<n then lI else if r.length<n*1 then lI else some (r.take (n*1),r.drop (n*1)):=rfl
  replace hR:=iD hR;replace hgb:=iD hgb;go_enter func145,ntmps145;go_wp2_with fail;refine hg.mono ?_;rintro e w1 ⟨⟨n,r,hn,rfl⟩ | ⟨hn,er,h0,h1,rfl⟩,rfl⟩
  · have hb1:=hgb.out
    rw[hn] at hb1;simp only at hb1;obtain⟨hpr,hn9⟩:=Ov hn;obtain⟨hrd,hrl⟩:=Z3l hpr;have hp9:(128:Nat) ^ 9=9223372036854775808:=by decide
    obtain⟨j,hj⟩:∃ j,j=s.length - r.length:=⟨_,rfl⟩;rw[<-hj] at hrd ⊢;have hjr:r.length=s.length - j:=by omega
    have hjl:j<=s.length:=by omega
    clear hg hgb hpr hn;by_cases hmost:131072<n
    · rw[if_pos hmost] at hb1
      have hres:=iD (Qv.none (er:=3) hb1 (by omega) (by omega));clear hb1 hj hrd hjr;go_wp2_with fail;go_returns;exact⟨hres.out,rfl⟩
    · rw[if_neg hmost] at hb1
      by_cases hend:r.length<n*1
      · rw[if_pos hend] at hb1
        have hres:=iD (Qv.none (er:=8) hb1 (by omega) (by omega));have hlt:s.length<j+n:=by omega
        clear hb1 hj hrd hend hjr;go_wp2_with fail;go_returns;exact⟨hres.out,rfl⟩
      · rw[if_neg hend,Nat.mul_one] at hb1
        have hle:j+n<=s.length:=by omega
        have htl:(r.take n).length=n:=by rw[List.length_take];omega
        have hrt:Hid (Rd w1 (fun _=>True) (cutA A c j 1) ((r.take n).map B)):=iD (by
          have h1:=(hR.out.cutA (k:=j) (cap:=c) (by rw[lL];exact hc)).take n;rw[<-List.map_drop,<-hrd,<-List.map_take] at h1;exact h1)
        have hres:Hid (Qv s k (.returned (.tuple #[Z1 (r.take n),.int .i64 ((j:Int)+(n:Int)),.int .i64 0]))):=iD (.inl ⟨_,_,hb1,by rw[lM,show s.length - (r.length - n)=j+n by omega];rfl⟩);obtain⟨t,ht⟩:∃ t,t=r.take n:=⟨_,rfl⟩;rw[<-ht] at hrt hres htl;unfold Z1 at hres;clear hb1 hj hrd hend hjr ht;subst htl;go_wp2_with (first
          | (refine Gq rfl 57 (.tmp 29) (.tmp 30) (.tmp 33) rfl 5 1 underlying57 (by kernel_rfl) A s.length c j (j+t.length) rfl rfl rfl (by omega) (by omega) ?_
             rw[show j+t.length - j=t.length by omega];go_frame)
          | (refine Qf rfl 57 9 (.tmp 34) rfl 5 underlying57 underlying5 underlying9 (cutA A c j 1) t (c - j) rfl hrt.out ?_;go_frame)
          | fail)
        go_returns;exact⟨hres.out,rfl⟩
  · have hb1:=hgb.out
    rw[hn] at hb1;have hres:=iD (Qv.none (er:=er) hb1 h0 h1);have hne:((er:Int) != 0)=true:=by simp;omega
    clear hg hgb hb1 hn;go_wp2_with fail;go_returns;exact⟨hres.out,rfl⟩
end
section
set_option maxRecDepth 100000
set_option maxHeartbeats 8000000
open Go.Lib renaming hid → iD
open Go.Proofs.Tryz
open Go.RowKit
theorem G0(p:Value)(e:Int)(w:World):Calls lA 318 #[p,.bool false,.int .i64 e] w fun r w'=>r=.returned (.tuple #[])/\w'=w:=by
 go_enter func318,ntmps318;go_wp2_with fail;go_returns;exact⟨rfl,rfl⟩
def Yz(w x:World):Prop:=∃ q,x=w.drewN q
theorem Zd5(s:Str)(A:Option Addr)(c k n g:Nat)(r:Str)(t:TypeId)(cs:List Value)(w:World)(hB:Blk w g t (.slice A s.length c :: .int .i64 (k:Int) :: cs))(hR:Rd w (· ≠ g) A (s.map B))(hk:k<=s.length)(hs:s.length<=1099511627776)
  (hn:Yw (s.drop k)=some (n,r)) :
  Calls lA 317 #[.pointer (some ⟨g,0,none⟩)] w fun e w'=>e=.returned (.int .i64 (n:Int))/\∃ q,w'=(w.drewN q).setCell ⟨g,1,none⟩ (.int .i64 ((s.length - r.length:Nat):Int)):=by
 have hg:Hid (∀ x:Cls (Yz w),Calls lA 144 #[.slice A s.length c,.int .i64 (k:Int)] x.1 fun e w'=>Q7 s k e/\w'=x.1):=iD (by rintro ⟨_,q,rfl⟩;exact Z1l s A c k (w.drewN q) ((hR.weak (fun _ _ _=>trivial)).drewN q) hk hs);have c0:∀ x:Cls (Yz w),x.1.cell? ⟨g,0,none⟩=some (.slice A s.length c):=by rintro ⟨_,q,rfl⟩;exact (hB.drewN q).cell 0
 have c1:∀ x:Cls (Yz w),x.1.cell? ⟨g,1,none⟩=some (.int .i64 (k:Int)):=by rintro ⟨_,q,rfl⟩;exact (hB.drewN q).cell 1
 have hrf:=iD G0;replace hn:=iD hn;replace hB:=iD hB;clear hR;haveI : Nonempty (Cls (Yz w)):=⟨⟨w,0,rfl⟩⟩;go_enter func317,ntmps317;go_wp2_with fail;refine Yh (fun w'=>∃ x:Cls (Yz w),w'=x.1) [([0,1,2,3,4,5,6,7],8)] [9,10,11,12,13,14] 15 [] (by kernel_rfl) (by kernel_rfl) (fun _ d _ _ _ h=>by cases d <;> exact h) ⟨⟨_,1,rfl⟩,rfl⟩ ?_;simp only[Y4,Z7,lS,lT,Zo,Zn];repeat (first | go_big_quiet_step (fail))
 refine lD ?_;intro K hK;go_simp;refine (hg.out ⟨_,1,rfl⟩).mono ?_;rintro e w1 ⟨⟨n',r',hn',rfl⟩ | ⟨hn',_⟩,rfl⟩
 ·rw[hn.out] at hn'
  injection hn' with hn'
  injection hn' with e1 e2
  subst e1;subst e2;refine hK _ _ ⟨⟨_,1,rfl⟩,rfl⟩ ?_;clear hK hg c0 c1;repeat (first | go_big_quiet_step (fail))
  refine lD ?_;have d1:=(hB.out.drewN 1).cell 1;have f1:=(hB.out.drewN 1).frozen 1;go_wp2_with fail;refine (hrf.out _ _ _).mono ?_;rintro e w2 ⟨rfl,rfl⟩;go_wp2_with fail;go_returns;exact⟨rfl,1,rfl⟩
 ·rw[hn.out] at hn';cases hn'
theorem Zd6(s:Str)(A:Option Addr)(c k g:Nat)(u r:Str)(t:TypeId)(cs:List Value)(w:World)(hB:Blk w g t (.slice A s.length c :: .int .i64 (k:Int) :: cs))(hR:Rd w (· ≠ g) A (s.map B))(hk:k<=s.length)(hs:s.length<=1099511627776)
  (hn:Yy 1 131072 (s.drop k)=some (u,r)) (hc:s.length<=c) :
  Calls lA 320 #[.pointer (some ⟨g,0,none⟩)] w fun e w'=>e=.returned (Z1 u)/\∃ q,w'=(w.drewN q).setCell ⟨g,1,none⟩ (.int .i64 ((s.length - r.length:Nat):Int)):=by
 have hg:Hid (∀ x:Cls (Yz w),Calls lA 145 #[.slice A s.length c,.int .i64 (k:Int)] x.1 fun e w'=>Qv s k e/\w'=x.1):=iD (by rintro ⟨_,q,rfl⟩;exact Z3m s A c k (w.drewN q) ((hR.weak (fun _ _ _=>trivial)).drewN q) hk hs hc);have c0:∀ x:Cls (Yz w),x.1.cell? ⟨g,0,none⟩=some (.slice A s.length c):=by rintro ⟨_,q,rfl⟩;exact (hB.drewN q).cell 0
 have c1:∀ x:Cls (Yz w),x.1.cell? ⟨g,1,none⟩=some (.int .i64 (k:Int)):=by rintro ⟨_,q,rfl⟩;exact (hB.drewN q).cell 1
 have hrf:=iD G0;replace hn:=iD hn;replace hB:=iD hB;clear hR;haveI : Nonempty (Cls (Yz w)):=⟨⟨w,0,rfl⟩⟩;unfold Z1;go_enter func320,ntmps320;go_wp2_with fail;refine Yh (fun w'=>∃ x:Cls (Yz w),w'=x.1) [([0,1,2,3,4,5,6,7],8)] [9,10,11,12,13,14] 15 [] (by kernel_rfl) (by kernel_rfl) (fun _ d _ _ _ h=>by cases d <;> exact h) ⟨⟨_,1,rfl⟩,rfl⟩ ?_;simp only[Y4,Z7,lS,lT,Zo,Zn];repeat (first | go_big_quiet_step (fail))
 refine lD ?_;intro K hK;go_simp;refine (hg.out ⟨_,1,rfl⟩).mono ?_;rintro e w1 ⟨⟨u',r',hn',rfl⟩ | ⟨hn',_⟩,rfl⟩
 ·rw[hn.out] at hn'
  injection hn' with hn'
  injection hn' with e1 e2
  subst e1;subst e2;unfold Z1;refine hK _ _ ⟨⟨_,1,rfl⟩,rfl⟩ ?_;clear hK hg c0 c1;repeat (first | go_big_quiet_step (fail))
  refine lD ?_;have d1:=(hB.out.drewN 1).cell 1;have f1:=(hB.out.drewN 1).frozen 1;go_wp2_with fail;refine (hrf.out _ _ _).mono ?_;rintro e w2 ⟨rfl,rfl⟩;go_wp2_with fail;go_returns;exact⟨rfl,1,rfl⟩
 ·rw[hn.out] at hn';cases hn'
theorem Zd7(l:Nat)(A:Option Addr)(c k n g:Nat)(t:TypeId)(cs:List Value)(w:World)(hB:Blk w g t (.slice A l c :: .int .i64 (k:Int) :: cs))(hk:k+n<=l)(hs:l<=1099511627776)(hc:l<=c) :
    Calls lA 346 #[.pointer (some ⟨g,0,none⟩),.int .i64 (n:Int)] w fun e w'=>e=.returned (.slice (cutA A c k 1) n (c - k))/\∃ q q',w'=((w.drewN q).setCell ⟨g,1,none⟩ (.int .i64 ((k+n:Nat):Int))).drewN q':=by
  have c0:w.cell? ⟨g,0,none⟩=some (.slice A l c):=hB.cell 0;have c1:w.cell? ⟨g,1,none⟩=some (.int .i64 (k:Int)):=hB.cell 1;have hrf:=iD G0;have hgt:decide ((l:Int) - (k:Int)<(n:Int))=false:=by simp;omega
  replace hB:=iD hB;go_enter func346,ntmps346;go_wp2_with fail;refine Y7 13 (by kernel_rfl) (by kernel_rfl) ?_;simp only[lU,lV,lW,lX];repeat (first | go_big_quiet_step (fail))
  refine lD ?_;rintro _ ⟨nq,rfl⟩;clear c0 c1;go_wp2_with fail;refine (hrf.out _ _ _).mono ?_;rintro e w2 ⟨rfl,rfl⟩;have d1:=(hB.out.drewN nq).cell 1;have f1:=(hB.out.drewN nq).frozen 1;have hB2:=iD (((hB.out.drewN nq).set_ 1 (.int .i64 ((k+n:Nat):Int))));go_wp2_with fail;rw[show ((k:Int)+(n:Int))=((k+n:Nat):Int) by omega];generalize hW:World.setCell (w.drewN nq) ⟨g,1,none⟩ (.int .i64 ((k+n:Nat):Int))=w3 at hB2;have e0:w3.cell? ⟨g,0,none⟩=some (.slice A l c):=hB2.out.cell 0;have e1:w3.cell? ⟨g,1,none⟩=some (.int .i64 ((k+n:Nat):Int)):=hB2.out.cell 1;replace hW:=iD hW;clear d1 f1 hgt;refine Y7 14 (by kernel_rfl) (by kernel_rfl) ?_;simp only[lU,lV,lW,lX];repeat (first | go_big_quiet_step (fail))
  refine lD ?_;rintro _ ⟨nr,rfl⟩;clear e0 e1;have hkn:((k:Int)+(n:Int)) - (n:Int)=(k:Int):=by omega
  go_wp2_with (first
    | (refine Gq rfl 57 (.tmp 30) (.tmp 36) (.tmp 40) rfl 5 1 underlying57 (by kernel_rfl) A l c k (k+n) rfl rfl rfl (by omega) (by omega) ?_
       rw[show k+n - k=n by omega];go_frame)
    | fail)
  go_returns;exact⟨rfl,nq,nr,by rw[hW.out]⟩
theorem Ku(w:World){o:Oper}{a:Act}{x:Operand}(ho:o.op=.sliceToArrayPointer 59 x)(ad:Addr)(c:Nat)(hx:a.eval x=.slice (some ad) 32 c):(execOp a.eval o).run lA w=.ok (.value (.pointer (some ad))) w:=by
 simp[execOp,ho,hx,Instr.arrayAt,run_underlying underlying59]
end
section

end
end Go.Proofs.YtefjlobdifjogaaGreatDoor
