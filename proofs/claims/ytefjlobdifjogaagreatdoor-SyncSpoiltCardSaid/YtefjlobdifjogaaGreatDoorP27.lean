import Derived.Test.YtefjlobdifjogaaGreatDoorP26
namespace Go.Proofs.YtefjlobdifjogaaGreatDoor
open Go.RowKit
theorem wf63{n:Int}(h:(Lit.int .i64 n).wf=true):n<128 ^ 9:=by
 have h9:(128:Int) ^ 9=9223372036854775808:=by decide
 simp only[Lit.wf,Bool.and_eq_true,decide_eq_true_eq] at h;have h2:n<=9223372036854775807:=h.2;omega
theorem MsgAt.fit{w:World}{m:PMsg}{o n:Value}(h:MsgAt w m o n):MFit m:=⟨wf63 h.kind,wf63 h.ses,wf63 h.code,h.fo.ok,h.fn.ok⟩
theorem Z2x:HFit []:=⟨by simp,fun d h=>by cases h⟩
def Zn2(m:PMsg)(t:Str)(er:Int):Prop:=(er=0/\Yc m=0/\t=Zs m) ∨ (er ≠ 0/\t=[])
theorem Zbh{w:World}{m:PMsg}{o n:Value}(h:MsgAt w m o n)(W:World)(hb:Below w.heap.size w W)(hK:Zm w) :
  Calls Tryz.prog 12 #[.agg (Zx m o n).toArray] W fun e w'=>∃ t er,e=.returned (.tuple #[.string ⟨t.toArray⟩,.int .i64 er])/\Zn2 m t er/\t.length<=2097152/\Below W.heap.size W w' :=
 (Z5b m o n _ W h.kind (h.old.down hb) (h.new.down hb) h.name (fun _=>h.fit) (keys_below hK hb)).mono (by
  rintro e w' ⟨rfl,hb'⟩;by_cases hm:Yc m=0
  ·exact⟨Zs m,0,by rw[if_pos hm],.inl ⟨rfl,hm,rfl⟩,Z4o (Z4n hm h.fit),hb'⟩
  ·exact⟨[],Yc m,by rw[if_neg hm],.inr ⟨hm,rfl⟩,by simp,hb'⟩)
end Go.Proofs.YtefjlobdifjogaaGreatDoor
