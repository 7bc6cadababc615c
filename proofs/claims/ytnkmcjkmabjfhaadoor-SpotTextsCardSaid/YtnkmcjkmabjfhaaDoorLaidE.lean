/- What the two laid errors give. -/
import Derived.Test.YtnkmcjkmabjfhaaDoorLaidT
import Derived.Test.YtnkmcjkmabjfhaaDoorSpotN
namespace Go.Proofs.YtnkmcjkmabjfhaaDoor
open Go.ChangeShapes Go.WideShapes Go.ChangeAt Go.RowKit

theorem gRange : Tryd.prog.globalNamed "strconv.ErrRange" = some 3 := by kernel_rfl
theorem gRangeType : (Tryd.prog.globals[3]?).map (·.type) = some 68 := by kernel_rfl
theorem gSynt : Tryd.prog.globalNamed "strconv.ErrSyntax" = some 2 := by kernel_rfl
theorem gSyntType : (Tryd.prog.globals[2]?).map (·.type) = some 68 := by kernel_rfl
theorem starErr : "*" ++ "errors.errorString" = "*errors.errorString" := by decide
theorem rowErr (u : TypeId) (h : Tryd.prog.typeName? 3 u = some "*errors.errorString") : u = 111 :=
  typeName_ptr_named (nm := "errors.errorString") (by rw [starErr]; kernel_rfl) (by kernel_rfl) (by decide) u (by rw [starErr]; exact h)
theorem cellsErr : Tryd.prog.cellsOf 113 = 1 := by kernel_rfl
theorem cellsStr : Tryd.prog.cellsOf 9 = 1 := by kernel_rfl
theorem errs_laid {W : World} {x y z : String × DataW Unit} {rest : List (String × DataW Unit)} (h : laidMet Tryd.prog (x :: y :: z :: ("strconv.ErrRange", Rows.laid_strconv_ErrRange) :: ("strconv.ErrSyntax", Rows.laid_strconv_ErrSyntax) :: rest) W) : ErrK W := by
  have h3 := laidMet.tail (laidMet.tail (laidMet.tail h))
  obtain ⟨a1, _, hv1, _⟩ := laid_sentinel h3 gRange gRangeType Tryd.underlying68 rowErr Tryd.underlying111 Tryd.underlying113 rfl rfl Tryd.underlying9 cellsErr cellsStr
  obtain ⟨a2, _, hv2, _⟩ := laid_sentinel (laidMet.tail h3) gSynt gSyntType Tryd.underlying68 rowErr Tryd.underlying111 Tryd.underlying113 rfl rfl Tryd.underlying9 cellsErr cellsStr
  exact ⟨⟨_, _, hv2⟩, _, _, hv1⟩
end Go.Proofs.YtnkmcjkmabjfhaaDoor
