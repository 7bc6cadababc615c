import Derived.Test.YtefjlobdifjogaaGreatDoorM26
open Bool renaming and_eq_true → lA
namespace Go.Proofs.YtefjlobdifjogaaGreatDoor
open Go.RowKit
theorem wf63 {n : Int} (h : (Lit.int .i64 n).wf = true) : n < 128 ^ 9 := by
 have h9 : (128 : Int) ^ 9 = 9223372036854775808 := by decide
 simp only [Lit.wf, lA, decide_eq_true_eq] at h;have h2 : n<=9223372036854775807 := h.2;omega
theorem MsgAt.fit {w : World} {m : PMsg} {o n : Value} (h : MsgAt w m o n) : MFit m := ⟨wf63 h.kind, wf63 h.ses, wf63 h.code, h.fo.ok, h.fn.ok⟩
theorem Z2h : HFit [] := ⟨by simp, fun d h => by cases h⟩
theorem Zm3 {m : PMsg} (h : Y1 m = 0) : (Lit.int .i64 m.kind).wf = true := by
 obtain ⟨h1, h2, _⟩ := Ol h;simp only [Lit.wf, lA, decide_eq_true_eq];exact ⟨by show (-9223372036854775808 : Int)<=_; omega, by show _<=(9223372036854775807 : Int); omega⟩
def Zm4 (m : PMsg) (t : Str) (er : Int) : Prop := (er = 0/\Y1 m = 0/\t = Zt m) ∨ (er ≠ 0/\t = [])
theorem swrite_at {w : World} {m : PMsg} {o n : Value} (h : MsgAt w m o n) (W : World) (hb : Below w.heap.size w W) (hK : KeysIn w) :
  Calls Tryz.prog 12 #[.agg (msgL m o n).toArray] W fun e w' => ∃ t er, e = .returned (.tuple #[.string ⟨t.toArray⟩, .int .i64 er])/\Zm4 m t er/\t.length<=2097152/\Below W.heap.size W w' :=
 (Z2d m o n _ W h.kind (h.old.down hb) (h.new.down hb) h.name (fun _ => h.fit) (keys_below hK hb)).mono (by
  rintro e w' ⟨rfl, hb'⟩;by_cases hm : Y1 m = 0
  ·exact ⟨Zt m, 0, by rw [if_pos hm], .inl ⟨rfl, hm, rfl⟩, Z45 (Z1v hm h.fit), hb'⟩
  ·exact ⟨[], Y1 m, by rw [if_neg hm], .inr ⟨hm, rfl⟩, by simp, hb'⟩)
end Go.Proofs.YtefjlobdifjogaaGreatDoor
