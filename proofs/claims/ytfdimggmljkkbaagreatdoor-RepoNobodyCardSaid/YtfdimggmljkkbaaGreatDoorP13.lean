import Derived.Test.YtfdimggmljkkbaaGreatDoorP11
import Derived.Test.YtfdimggmljkkbaaGreatDoorP12
open Go.RowKit.Below renaming refl → lC
open List renaming flatMap_append → lA, length_append → lB
namespace Go.Proofs.YtfdimggmljkkbaaGreatDoor
section

end
section

end
section
set_option maxRecDepth 100000
set_option maxHeartbeats 4000000
open Go.Lib renaming hid → iD
open Go.Proofs.Tryz
open Go.RowKit
abbrev Xv(l:Value)(by_ rb g:Nat)(a:Str)(br:Bool):List Value:=[l,.map (some by_),.pointer (some ⟨rb,0,none⟩),.pointer (some ⟨g,0,none⟩),.string ⟨a.toArray⟩,.bool br]
theorem Z1u(r:Nat)(l:Value)(by_ rb g:Nat)(a:Str)(br:Bool)(w:World)(h:Blk w r 32 (Xv l by_ rb g a br)) :
  Calls Tryz.prog 38 #[.pointer (some ⟨r,0,none⟩)] w fun e w'=>e=.returned (.bool true)/\w'=w:=by
 have c2:w.cell? ⟨r,2,none⟩=some (.pointer (some ⟨rb,0,none⟩)):=h.cell 2;clear h;go_enter func38,ntmps38;go_wp2;go_ret;exact⟨rfl,rfl⟩
theorem Zaq{T:Tab}{m:Nat}(h:m<T.length):(T.take (m+1)).flatMap (·.heads)=(T.take m).flatMap (·.heads)++T[m].heads:=by
 have e:T.take (m+1)=T.take m++[T[m]]:=by rw[List.take_add_one,List.getElem?_eq_getElem h];rfl
 rw[e,lA];simp
theorem Zar(a b:List Str):Zy (a++b)=Zy a++Zy b:=lA
theorem Zas(T:Tab)(v:Value)(ok:Nat->Prop)(w:World)(h:TabIs w ok v T)(hf:TFit T)(ht:tOk T)(hl:(T.flatMap (·.heads)).length<=1000) :
  Calls Tryz.prog 48 #[v] w fun e w'=>∃ V,e=.returned V/\w'.ownsRow w.heap.size 47 32 V (T.flatMap (·.heads)).length (Zy (T.flatMap (·.heads)))/\Below w.heap.size w w':=by
 obtain⟨TA,tc,rfl,_⟩:=h.form;have hTl:=hf.len;obtain⟨ys,hys⟩:∃ ys,ys=T.flatMap (·.heads):=⟨_,rfl⟩;rw[<-hys] at hl ⊢;replace hys:=iD hys;replace h:=iD h;go_enter func48,ntmps48;go_wp2_with fail;go_loopw [3,8] (fun b i wr=>∃ m:Nat,m<=T.length/\i=.int .i64 m/\wr.ownsRow w.heap.size 47 32 b ((T.take m).flatMap (·.heads)).length (Zy ((T.take m).flatMap (·.heads)))/\Below w.heap.size w wr) (fun _ i _=>T.length - (intOf i).toNat)
 case atStart=>exact⟨0,Nat.zero_le _,rfl,⟨rfl,.inl ⟨rfl,rfl⟩⟩,lC _ _⟩
 case round =>
  obtain⟨m,hm,rfl,hrow,hbr⟩:=hrel;by_cases hlt:m<T.length
  ·obtain⟨xs,hxs⟩:∃ xs,xs=(T.take m).flatMap (·.heads):=⟨_,rfl⟩;have hfl:=iD (Zaq hlt);have hxl:xs.length+T[m].heads.length<=1000:=by
    have h1:(T.take (m+1)).flatMap (·.heads)++(T.drop (m+1)).flatMap (·.heads)=T.flatMap (·.heads):=by rw[<-lA,List.take_append_drop]
    have h2:=congrArg List.length h1;rw[lB,Zaq hlt,lB,<-hxs,<-hys.out] at h2;omega
   rw[<-hxs] at hrow hfl;have hr:=h.out.stayB hbr;obtain⟨b,o,u,rfl,_,hbl,hu,c0,c1⟩:=hr.br m hlt;obtain⟨UA,uc,rfl,huc,hur⟩:=hu;have hhd:hOk T[m].heads:=ht _ (List.getElem_mem hlt);have hcl:=Vx hhd;obtain⟨hs,hhs⟩:∃ hs,hs=T[m].heads:=⟨_,rfl⟩;obtain⟨nm,hnm⟩:∃ nm,nm=T[m].name:=⟨_,rfl⟩;rw[<-hhs] at hur c1 hfl hcl hxl;rw[<-hnm] at c0;unfold Z0 at c0;obtain⟨FA,fc,rfl,_,_⟩:=Z6 hrow;have i1:(0:Int)<=(m:Int):=by omega
   have i2:(m:Int)<(T.length:Int):=by omega
   replace hrow:=iD hrow;replace hbr:=iD hbr;replace hxs:=iD hxs;replace hhs:=iD hhs;replace hnm:=iD hnm;have hur':=iD (hur.stayB ((lC wr.heap.size wr).alloc (Nat.le_refl _) (.cells #[.string ⟨nm.toArray⟩,.slice UA hs.length uc] 192)));have hsz:=hbr.out.size;clear hr hur huc h;go_wp2_with (at_builtin;refine X0 _ rfl (.tmp 12) (.tmp 14) 37 rfl w.heap.size 47 (.agg Z3.toArray) 32 32 underlying37 Z30 (.slice FA xs.length fc) xs.length (Zy xs) rfl (hrow.out.alloc _) _ UA hs.length uc (Zy hs) rfl hcl hur'.out (Z00 _) (by unfold maxLen;omega) (by omega) (by simp;omega) ?_;intro v4 W4 hrow4 hg4 hv4;replace hrow4:=iD hrow4;replace hg4:=iD hg4;clear hv4;obtain⟨VA,vc,rfl,_,_⟩:=Z6 hrow4.out;go_frame);refine⟨⟨m+1,by omega,by go_num,?_,?_⟩,by simp[intOf];omega⟩
   ·rw[hfl.out,Zar,lB];exact hrow4.out
   ·exact (hbr.out.alloc hsz _).trans (Yd (hrow.out.alloc _) hg4.out (by simp;omega))
  ·have hmt:m=T.length:=by omega
   subst hmt;rw[List.take_length,<-hys.out] at hrow;obtain⟨FA,fc,rfl,_,_⟩:=Z6 hrow;go_wp2_with fail;go_returns;exact⟨_,rfl,hrow,hbr⟩
end
section
open Go.RowKit
theorem Zkn{P:Program}{t k e:TypeId}(ht:P.underlying t=some (.map k e))(n:Int)(w:World):(Instr.makeMap t (some (.int .i64 n))).run P w=.ok (.map (some w.heap.size)) (w.alloc (.map #[] 0)):=by
 simp[Instr.makeMap,run_underlying ht,asInt,asIntOf,Result.andThen]
theorem Zb3{ds:Str}(h:ds.length=32)(v:Value):(Yq ds v).length=33:=by simp[Yq,h]
theorem Z3l{nc:List Value}(h:nc.length=33):(Tryz.prog.info? 94).map (·.size)=some nc.length:=by rw[h];kernel_rfl
end
end Go.Proofs.YtfdimggmljkkbaaGreatDoor
