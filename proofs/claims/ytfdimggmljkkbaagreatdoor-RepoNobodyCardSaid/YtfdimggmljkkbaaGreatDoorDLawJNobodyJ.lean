/- RepoNobody: a repository that nobody opened has nothing, and does nothing: the tied card: closed facts of its row. -/
import Derived.Test.YtfdimggmljkkbaaGreatDoorDLawPj
namespace Go.Proofs.YtfdimggmljkkbaaGreatDoor.repoNobody
open Go.ChangeShapes Go.WideShapes Go.ChangeAt Go.RowKit

theorem j0 : (Rows.repoNobodyRow.wf (OpenSpec.ofChange (OpenSpec.ofChange Rows.repoNobodySpec).bare)) = true := by kernel_rfl
theorem j3 : (Tryz.f3.params.all (Tryz.prog.readableRec ·)) = true := by kernel_rfl
theorem j4 : (namedTie Tryz.prog Rows.repoNobodyRow.named (OpenSpec.ofChange Rows.repoNobodySpec).bare.vars) = true := by kernel_rfl
theorem j5 : ((Rows.repoNobodyRow.stops == [])) = true := by kernel_rfl
theorem j7 : ((Rows.repoNobodyRow.knobs == [])) = true := by kernel_rfl
theorem j9 : ((Rows.repoNobodyRow.inPlace == Tryz.prog.inPlace 3)) = true := by kernel_rfl
theorem j10 : ((Rows.repoNobodyRow.unfollowed == Tryz.prog.unfollowed 3)) = true := by kernel_rfl
theorem j11 : ((Rows.repoNobodyRow.recurses == Tryz.prog.recurses 3)) = true := by kernel_rfl
theorem j12 : ((Rows.repoNobodyRow.named == Tryz.prog.varsNamed 3)) = true := by kernel_rfl
theorem j13 : ((Rows.repoNobodyRow.maps == (Tryz.f3.params.toList ++ (OpenSpec.ofChange Rows.repoNobodySpec).bare.plain.varTypes Tryz.prog).any (Tryz.prog.mapsRec ·))) = true := by kernel_rfl
theorem j14 : ((Rows.repoNobodyRow.ifaces == (Tryz.f3.params.toList ++ (OpenSpec.ofChange Rows.repoNobodySpec).bare.plain.varTypes Tryz.prog).any (Tryz.prog.ifacesRec ·))) = true := by kernel_rfl
theorem j15 : ((Rows.repoNobodyRow.mapsOut == Tryz.prog.mapsAmong Tryz.f3.resultTypes.toList)) = true := by kernel_rfl
theorem j16 : ((Rows.repoNobodyRow.loops == (Tryz.f3.params.toList ++ (OpenSpec.ofChange Rows.repoNobodySpec).bare.plain.varTypes Tryz.prog).any (Tryz.prog.loopsFrom ·))) = true := by kernel_rfl
theorem j17 : ((Rows.repoNobodyRow.wideKeys == (Tryz.f3.params.toList ++ (OpenSpec.ofChange Rows.repoNobodySpec).bare.plain.varTypes Tryz.prog ++ Tryz.f3.resultTypes.toList).any (Tryz.prog.wideKeysFrom ·))) = true := by kernel_rfl
theorem j18 : ((OpenSpec.ofChange Rows.repoNobodySpec).bare.vars.all (Tryz.prog.varReadable ·)) = true := by kernel_rfl
theorem j19 : (Tryz.f3.resultTypes.all (fun t => Tryz.prog.readableRec t && decide (t < Tryz.prog.types.size))) = true := by kernel_rfl
theorem j20 : ((Rows.repoNobodyRow.ifacesOut == Tryz.f3.resultTypes.toList.any (Tryz.prog.ifacesRec ·))) = true := by kernel_rfl
theorem j21 : ((Rows.repoNobodyRow.loopsOut == Tryz.f3.resultTypes.toList.any (Tryz.prog.loopsFrom ·))) = true := by kernel_rfl
theorem j22 : ((Rows.repoNobodyRow.plainKeys == Tryz.prog.plainKeys)) = true := by kernel_rfl
theorem j23 : (Rows.repoNobodyRow.shortTexts.isNone) = true := by kernel_rfl
theorem j26 : ((Rows.repoNobodyRow.lifted == Tryz.prog.liftsFinal)) = true := by kernel_rfl
theorem j27 : ((Tryz.prog.make == some Rows.repoNobodyRow.make)) = true := by kernel_rfl
theorem j28 : ((Rows.repoNobodyRow.kinds == (if Rows.repoNobodyRow.domain.isEmpty then [] else Tryz.f3.params.toList.map fun t => match Tryz.prog.underlying t with | some (.int k) => some k | _ => none))) = true := by kernel_rfl
theorem j29 : ((Rows.repoNobodyRow.pinned == Rows.repoNobodyRow.pinnedBy)) = true := by kernel_rfl
theorem j30 : ((Rows.repoNobodyRow.veiled == (Tryz.f3.params.toList ++ (OpenSpec.ofChange Rows.repoNobodySpec).bare.plain.varTypes Tryz.prog ++ Tryz.f3.resultTypes.toList).any (Tryz.prog.veiledRec ·))) = true := by kernel_rfl
theorem j31 : (Rows.repoNobodyRow.veiledFits Tryz.prog Tryz.f3.params.toList (Tryz.f3.params.toList ++ (OpenSpec.ofChange Rows.repoNobodySpec).bare.plain.varTypes Tryz.prog ++ Tryz.f3.resultTypes.toList)) = true := by kernel_rfl
set_option maxRecDepth 100000 in
theorem closed : joinedFacts Tryz.prog 3 Tryz.f3 (OpenSpec.ofChange Rows.repoNobodySpec).bare Rows.repoNobodyRow = true := by
  unfold joinedFacts
  exact Bool.and_eq_true_iff.2 ⟨Bool.and_eq_true_iff.2 ⟨Bool.and_eq_true_iff.2 ⟨Bool.and_eq_true_iff.2 ⟨Bool.and_eq_true_iff.2 ⟨Bool.and_eq_true_iff.2 ⟨Bool.and_eq_true_iff.2 ⟨Bool.and_eq_true_iff.2 ⟨Bool.and_eq_true_iff.2 ⟨Bool.and_eq_true_iff.2 ⟨Bool.and_eq_true_iff.2 ⟨Bool.and_eq_true_iff.2 ⟨Bool.and_eq_true_iff.2 ⟨Bool.and_eq_true_iff.2 ⟨Bool.and_eq_true_iff.2 ⟨Bool.and_eq_true_iff.2 ⟨Bool.and_eq_true_iff.2 ⟨Bool.and_eq_true_iff.2 ⟨Bool.and_eq_true_iff.2 ⟨Bool.and_eq_true_iff.2 ⟨Bool.and_eq_true_iff.2 ⟨Bool.and_eq_true_iff.2 ⟨Bool.and_eq_true_iff.2 ⟨Bool.and_eq_true_iff.2 ⟨Bool.and_eq_true_iff.2 ⟨Bool.and_eq_true_iff.2 ⟨Bool.and_eq_true_iff.2 ⟨Bool.and_eq_true_iff.2 ⟨Bool.and_eq_true_iff.2 ⟨Bool.and_eq_true_iff.2 ⟨Bool.and_eq_true_iff.2 ⟨j0, laidOutF⟩, mapsRowedF⟩, j3⟩, j4⟩, j5⟩, stopsF⟩, j7⟩, knobsF⟩, j9⟩, j10⟩, j11⟩, j12⟩, j13⟩, j14⟩, j15⟩, j16⟩, j17⟩, j18⟩, j19⟩, j20⟩, j21⟩, j22⟩, j23⟩, stopsHeardF⟩, mayEnterF⟩, j26⟩, j27⟩, j28⟩, j29⟩, j30⟩, j31⟩
theorem wrap : (Tryz.f3).isWrapper Tryz.prog Rows.repoNobodyRow.wrapper Rows.repoNobodyRow.mainSum := by unfold Func.isWrapper; first | (rw [if_pos (by decide +kernel)]; kernel_rfl) | (rw [if_neg (by decide +kernel)]; exact ⟨rfl, rfl⟩)
theorem inst : (Tryz.f3).isInstance Tryz.prog Rows.repoNobodyRow.origin Rows.repoNobodyRow.targs := of_decide_eq_true (by kernel_rfl)
theorem nameIs : Tryz.prog.funcNamed Rows.repoNobodyRow.func = some 3 := by kernel_rfl
theorem plain (f : FuncId) (fn : Func) (hf : Tryz.pinned.checked.prog.funcNamed "recension/recensionlaw15.RepoNobody" = some f) (hfn : Tryz.pinned.checked.prog.funcs[f]? = some fn) :
    true = Tryz.pinned.checked.prog.looks [] ∧ ∀ (j : Nat) t, fn.params[j]? = some t → Tryz.pinned.checked.prog.wantsStandIn t = false := by
  obtain rfl : f = 3 := Option.some.inj ((show Tryz.prog.funcNamed "recension/recensionlaw15.RepoNobody" = some 3 by kernel_rfl).symm.trans hf) |>.symm
  obtain rfl : fn = Tryz.f3 := (Option.some.inj (Tryz.func3.symm.trans hfn)).symm
  refine ⟨by kernel_rfl, fun j t ht => ?_⟩
  rw [Tryz.params3] at ht
  have hm : t ∈ [23] := by simpa using Array.mem_of_getElem? ht
  have hall : ([23].all fun u => !Tryz.prog.wantsStandIn u) = true := by kernel_rfl
  exact (show Tryz.prog.wantsStandIn t = false by simpa using List.all_eq_true.1 hall t hm)
theorem byText : Rows.repoNobodyRow.wfByText (OpenSpec.ofChange Rows.repoNobodySpec) = true := by kernel_rfl
theorem goes : false = Rows.repoNobodyRow.goesBy Tryz.prog := by kernel_rfl
end Go.Proofs.YtfdimggmljkkbaaGreatDoor.repoNobody
