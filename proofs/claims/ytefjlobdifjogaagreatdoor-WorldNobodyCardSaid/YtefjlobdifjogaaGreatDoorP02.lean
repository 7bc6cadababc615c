import Derived.Test.YtefjlobdifjogaaGreatDoorP01
import Derived.ChangeKeysEq
open Go renaming run_underlying → lC
open Go.Op renaming equalIn → lB
open Go.Proofs.Tryz renaming prog → lA
open Go.Result renaming andThen_ok → lF
open Go.Sem renaming run_bind → lE, run_pure → lH
open Go.Value renaming int → lD, bool → lG
namespace Go.Proofs.YtefjlobdifjogaaGreatDoor
section
set_option maxRecDepth 100000
open Go.Proofs.Tryz
open Go.RowKit
def Y8(r:PRef):Value:=.agg (Z4 r).toArray
theorem Z76(w:World)(xs:Array Value)(i:Nat)(b:Bool)(hx:xs[i]?=some (.bool b)):(part 4 xs i).run lA w=.ok (.bool b) w:=by
 simp[part,isAgg,lC underlying4,hx]
theorem Z77(w:World)(xs:Array Value)(i:Nat)(n:Int)(hx:xs[i]?=some (.int .i64 n)):(part 3 xs i).run lA w=.ok (.int .i64 n) w:=by
 simp[part,isAgg,lC underlying3,hx]
theorem Z78(w:World)(b:Bool)(ds:Str)(n:Int)(hd:ds.length=32):(part 59 (lG b :: (ds.map B++[lD .i64 n])).toArray 1).run lA w=.ok (.agg (ds.map B).toArray) w:=by
 have e:(lG b :: (ds.map B++[lD .i64 n])).toArray.extract 1 33=(ds.map B).toArray:=by
  apply Array.ext';have h1:List.take 32 (List.map B ds++[lD IntKind.i64 n])=List.map B ds:=List.take_left' (by simp[hd]);simp[List.extract,h1]
 simp only[part,isAgg,lC underlying59,sizeOf59,lE,lF,lH,if_true,Nat.reduceAdd,e]
theorem Zd8{P:Program}(w:World)(D:Nat)(xs ys:Array Value){s1 s2 s3:TypeId}{o1 o2 o3:Nat}(fs:List Field)(a1 a2 a3 b1 b2 b3:Value){u1 u2 u3:Bool}(hf:(fs.map fun f=>(f.name,f.type,f.offset))=[("Own",s1,o1),("Commit",s2,o2),("N",s3,o3)])
  (pa:(part s1 xs o1).run P w=.ok a1 w) (pb:(part s1 ys o1).run P w=.ok b1 w) (qa:(part s2 xs o2).run P w=.ok a2 w) (qb:(part s2 ys o2).run P w=.ok b2 w) (ra:(part s3 xs o3).run P w=.ok a3 w) (rb:(part s3 ys o3).run P w=.ok b3 w)
  (e1:(lB D s1 a1 b1).run P w=.ok u1 w) (e2:(lB D s2 a2 b2).run P w=.ok u2 w) (e3:(lB D s3 a3 b3).run P w=.ok u3 w) :
  (Op.eqFields D xs ys fs).run P w=.ok (u1 && (u2 && u3)) w:=by
 obtain⟨f1,f2,f3,rfl⟩:∃ f1 f2 f3,fs=[f1,f2,f3]:=by
  rcases fs with _ | ⟨f1,_ | ⟨f2,_ | ⟨f3,_ | ⟨f4,fs⟩⟩⟩⟩;all_goals first | exact⟨_,_,_,rfl⟩ | (exfalso;simp at hf)
 simp only[List.map_cons,List.map_nil,List.cons.injEq,Prod.mk.injEq,and_true] at hf;obtain⟨⟨n1,t1,p1⟩,⟨n2,t2,p2⟩,⟨n3,t3,p3⟩⟩:=hf;simp only[Op.eqFields,n1,n2,n3,t1,t2,t3,p1,p2,p3,ne_eq,String.reduceEq,not_false_eq_true,if_true,lE,pa,pb,e1,lF];cases u1 <;> cases u2 <;> cases u3 <;> simp[qa,qb,ra,rb,e2,e3]
theorem Zd9:lA.underlying 261=some (.struct (lA.fieldsOf 261)):=by
 simp[Program.fieldsOf,underlying261]
theorem Z3o(w:World)(a b:PRef)(ha:a.com.length=32)(hb:b.com.length=32) :
  (lB 10000 261 (Y8 a) (Y8 b)).run lA w=.ok (a.own == b.own && (a.com == b.com && a.n == b.n)) w:=by
 have hf:((lA.fieldsOf 261).toList.map fun f=>(f.name,f.type,f.offset))=[("Own",4,0),("Commit",59,1),("N",3,33)]:=by simp[Program.fieldsOf,underlying261]
 have pa:=Z76 w (Z4 a).toArray 0 a.own rfl;have pb:=Z76 w (Z4 b).toArray 0 b.own rfl;have qa:=Z78 w a.own a.com a.n ha;have qb:=Z78 w b.own b.com b.n hb;have ra:=Z77 w (Z4 a).toArray 33 a.n (by simp[Z4,ha]);have rb:=Z77 w (Z4 b).toArray 33 b.n (by simp[Z4,hb]);have e1:(lB 9999 4 (.bool a.own) (.bool b.own)).run lA w=.ok (a.own == b.own) w:=run_equalIn_bool w 9998 _ _ _ underlying4;have e2:(lB 9999 59 (.agg (a.com.map B).toArray) (.agg (b.com.map B).toArray)).run lA w=.ok (a.com == b.com) w:=Z18 (P:=lA) w 9998 59 5 32 underlying59 underlying5 (by kernel_rfl) a.com b.com ha hb (fun x y=>by rw[run_equalIn_int (P:=lA) w 9997 5 .u8 .u8 (bv x) (bv y) underlying5,Z17]);have e3:(lB 9999 3 (.int .i64 a.n) (.int .i64 b.n)).run lA w=.ok (a.n == b.n) w:=run_equalIn_int w 9998 _ _ _ _ _ underlying3;unfold Y8;rw[run_equalIn_struct w 9999 261 _ _ Zd9 Tryz.stoodInHeld261];exact Zd8 w 9999 _ _ _ _ _ _ _ _ _ hf pa pb qa qb ra rb e1 e2 e3
theorem Zda(w:World)(a b:PRef)(ha:a.com.length=32)(hb:b.com.length=32) :
  (binOp .eql 261 (Y8 a) (Y8 b)).run lA w=.ok (.bool (a.own == b.own && (a.com == b.com && a.n == b.n))) w:=by
 have h:=Z3o w a b ha hb;unfold Y8 at h ⊢;rw[run_eql_struct,h];rfl
end
section
set_option maxRecDepth 100000
set_option maxHeartbeats 1000000
open Go.Lib renaming hid → iD
open Go.Proofs.Tryz
open Go.RowKit
theorem Zdb(w:World){o:Oper}{a:Act}{x y:Operand}{yt:TypeId}(ho:o.op=.binOp .eql 261 x y yt)(r s:PRef)(hxe:a.eval x=Y8 r)(hye:a.eval y=Y8 s)(hr:r.com.length=32)(hs:s.com.length=32) :
  (execOp a.eval o).run lA w=.ok (.value (.bool (r.own == s.own && (r.com == s.com && r.n == s.n)))) w:=by
 have h1:(eqGuard .eql 261 x y (Y8 r) (Y8 s)).run lA w=.ok () w:=run_eqGuard_agg (P:=lA) w .eql 261 x y _ _ Tryz.eqGuardType261;simp only[execOp,ho,hxe,hye,lE,h1,lF,Zda w r s hr hs,lH]
theorem Z3p{ops:Array Oper}{rest:List Oper}{o:Oper}{a:Act}{w:World}{Q:Exit->Act->World->Prop}(hgd:o.guard=none)(x y:Operand)(yt:TypeId)(ho:o.op=.binOp .eql 261 x y yt)
  (r s:PRef) (hxe:a.eval x=Y8 r) (hye:a.eval y=Y8 s) (hr:r.com.length=32) (hs:s.com.length=32)
  (h:wpList lA ops Q rest (a.put o.dst (.bool (r.own == s.own && (r.com == s.com && r.n == s.n)))) w):wpList lA ops Q (o :: rest) a w :=
 Y2 _ ho hgd _ (Zdb w ho r s hxe hye hr hs) h
def Zh:PRef:=⟨false,Yf,0⟩
theorem Zdc(r:PRef):(r.own == Zh.own && (r.com == Zh.com && r.n == Zh.n))=r.root:=by
 unfold PRef.root Zh;cases r.own <;> simp
theorem Z79(r:PRef)(hr:r.com.length=32)(w:World):Calls lA 248 #[Y8 r] w fun e w'=>e=.returned (.bool r.root)/\Below w.heap.size w w':=by
 have hsr:(lA.info? 261).map (·.size)=some (Z4 r).length:=by
  have e:(Z4 r).length=34:=by simp[Z4,hr]
  have e2:(lA.info? 261).map (·.size)=some 34:=by kernel_rfl
  rw[e2,e]
 have hz:(Zh.com).length=32:=by decide
 have hrt:=Zdc r;obtain⟨q,hq⟩:∃ q,q=r.root:=⟨_,rfl⟩;rw[<-hq] at hrt ⊢;replace hq:=iD hq;replace hsr:=iD hsr;replace hr:=iD hr;replace hz:=iD hz;replace hrt:=iD hrt;unfold Y8;go_enter func248,ntmps248;go_wp2_with (first
  | (refine Zy rfl 261 (.tmp 1) rfl w.heap.size rfl 261 (Z4 r) (Blk.new_at rfl) _ underlying261 rfl hsr.out ?_)
  | (refine Z3p rfl (.tmp 3) (.tmp 4) _ rfl r Zh rfl rfl hr.out hz.out ?_;rw[hrt.out]))
 go_ret;exact⟨rfl,bL⟩
end
section
set_option maxRecDepth 100000
set_option maxHeartbeats 1000000
open Go.Lib renaming hid → iD
open Go.Proofs.Tryz
open Go.RowKit
theorem Zdv(r:PRef)(hr:r.com.length=32)(h0:-9223372036854775808<=r.n)(h1:r.n<=9223372036854775807)(w:World):Calls lA 299 #[Y8 r] w fun e w'=>e=.returned (.bool (Oq r))/\Below w.heap.size w w':=by
 have hsr:(lA.info? 261).map (·.size)=some (Z4 r).length:=by
  have e:(Z4 r).length=34:=by simp[Z4,hr]
  have e2:(lA.info? 261).map (·.size)=some 34:=by kernel_rfl
  rw[e2,e]
 have hcr:=fun W=>Z79 r hr W;have hok:Oq r=if r.own then (r.com == Yf && decide (0<r.n)) else if r.root then true else (decide (0<r.n) && decide (r.n<=2000)):=rfl;obtain⟨ok,ho⟩:∃ ok,ok=Oq r:=⟨_,rfl⟩;rw[<-ho] at hok ⊢;replace hsr:=iD hsr;replace hr:=iD hr;replace ho:=iD ho;replace hok:=iD hok;replace hcr:=iD hcr;have f0:(Z4 r)[0]?=some (.bool r.own):=rfl;have f33:(Z4 r)[33]?=some (.int .i64 r.n):=by simp[Z4,hr.out]
 have hdp:(Z4 r).drop 1=r.com.map B++[.int .i64 r.n]:=rfl;have hsd:(lA.info? 59).map (·.size)=some (r.com.map B).length:=by rw[List.length_map,hr.out];kernel_rfl
 replace hdp:=iD hdp;replace hsd:=iD hsd;have hzl:Yf.length=32:=by decide
 replace hzl:=iD hzl;unfold Y8;go_enter func299,ntmps299;go_wp2_with (first
  | (refine Xj rfl 59 (.tmp 6) rfl w.heap.size 1 rfl 261 (Z4 r) (r.com.map B) _ (Blk.new_at rfl) hdp.out _ underlying59 rfl hsd.out ?_)
  | (refine Z6d rfl (.tmp 7) (.tmp 8) _ rfl r.com Yf rfl rfl hr.out hzl.out ?_)
  | (refine Zy rfl 261 (.tmp 1) rfl w.heap.size rfl 261 (Z4 r) (Blk.new_at rfl) _ underlying261 rfl hsr.out ?_)
  | fail)
 ·go_ret;refine⟨?_,bL⟩;rw[hok.out]
  simp_all
 ·go_ret;refine⟨?_,bL⟩;rw[hok.out]
  simp_all
 ·refine (hcr.out _).mono ?_;rintro e W ⟨rfl,hbW⟩;have hblk:W.heap[w.heap.size]?=some (.cells (Z4 r).toArray 261):=by
   rw[hbW.block _ (by simp)];exact Blk.new_at (w:=w) (t:=261) (cs:=Z4 r) rfl
  have hW33:W.cell? ⟨w.heap.size,33,none⟩=some (.int .i64 r.n):=by simp[World.cell?,hblk,f33]
  have hbw:=((Below.refl w.heap.size w).alloc (Nat.le_refl _) (.cells (Z4 r).toArray 261)).trans (hbW.mono (by simp));replace hbw:=iD hbw;clear hbW;go_wp2;all_goals (go_ret;refine⟨?_,hbw.out⟩;rw[hok.out];simp_all;try omega)
end
section
open Go.RowKit
def Kv(k:Nat):PRef:=⟨true,Yf,(k:Int)⟩
def Xd(k:Nat):PRef:=if k=0 then Zh else Kv k
def Zb(k:Nat)(c:UInt8):POp:=⟨1,false,Xd k,c⟩
def Jd:Nat->Str->List POp
 | _,[]=>[]
 | k,c :: t=>Zb k c :: Jd (k+1) t
def chain(t:Str):List POp:=Jd 0 t
theorem Qx(k:Nat):(Xd k).com.length=32:=by
 unfold Xd;split <;> exact (by decide:Yf.length=32)
theorem Z1w(k:Nat):(Xd k).n=(k:Int):=by
 unfold Xd;split
 ·rename_i h;rw[h];rfl
 ·rfl
theorem G3(k:Nat):(Xd k).own=decide (k ≠ 0):=by
 unfold Xd;split
 ·rename_i h;simp[h,Zh]
 ·rename_i h;simp[h,Kv]
theorem Zdw(k:Nat):Oq (Xd k)=true:=by
 unfold Xd;split
 ·decide
 ·rename_i h;have : 0<k:=by omega
  simp[Oq,Kv,this]
theorem Jq:∀ (t:Str) (k:Nat),(Jd k t).length=t.length
 | [],_=>rfl
 | _ :: t,k=>by simp[Jd,Jq t (k+1)]
theorem Z1x:∀ (t:Str) (k i:Nat) (h:i<t.length),(Jd k t)[i]?=some (Zb (k+i) t[i])
 | c :: t,k,0,_=>rfl
 | c :: t,k,i+1,h=>by
  have h1:i<t.length:=by simpa using h
  simp only[Jd,List.getElem?_cons_succ,List.getElem_cons_succ];rw[Z1x t (k+1) i h1]
  congr 2
  omega
theorem Vq{k:Nat}(c:UInt8)(hk:k<=1000000):OpFit (Zb k c):=by
 have h:=Z1w k;constructor
 ·exact Qx k
 all_goals simp only[Zb]
 all_goals first | (rw[h];omega) | decide
theorem Z3v:∀ (t:Str) (k:Nat),k+t.length<=1000000->∀ x ∈ Jd k t,OpFit x
 | [],_,_,x,hx=>by cases hx
 | c :: t,k,h,x,hx=>by
  simp only[List.length_cons] at h;rcases List.mem_cons.1 hx with rfl | hx
  ·exact Vq c (by omega)
  ·exact Z3v t (k+1) (by omega) x hx
theorem Z3w{t:Str}(h:t.length<=1000000):OsFit (chain t):=⟨by rw[chain,Jq];omega,Z3v t 0 (by omega)⟩
def Ym(a t:Str):PCom:=⟨[],a,[],chain t⟩
end
end Go.Proofs.YtefjlobdifjogaaGreatDoor
