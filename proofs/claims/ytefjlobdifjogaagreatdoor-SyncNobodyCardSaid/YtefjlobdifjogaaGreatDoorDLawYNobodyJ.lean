/- SyncNobody: clients and repositories that nobody made say nothing, and are asked for nothing: the tied card: closed facts of its row. -/
import Derived.Test.YtefjlobdifjogaaGreatDoorDLawPj
namespace Go.Proofs.YtefjlobdifjogaaGreatDoor.syncNobody
open Go.ChangeShapes Go.WideShapes Go.ChangeAt Go.RowKit

theorem j0 : (Rows.syncNobodyRow.wf (OpenSpec.ofChange (OpenSpec.ofChange Rows.syncNobodySpec).bare)) = true := by kernel_rfl
theorem j3 : (Tryz.f4.params.all (Tryz.prog.readableRec ·)) = true := by kernel_rfl
theorem j4 : (namedTie Tryz.prog Rows.syncNobodyRow.named (OpenSpec.ofChange Rows.syncNobodySpec).bare.vars) = true := by kernel_rfl
theorem j5 : ((Rows.syncNobodyRow.stops == [])) = true := by kernel_rfl
theorem j7 : ((Rows.syncNobodyRow.knobs == [])) = true := by kernel_rfl
theorem j9 : ((Rows.syncNobodyRow.inPlace == Tryz.prog.inPlace 4)) = true := by kernel_rfl
theorem j10 : ((Rows.syncNobodyRow.unfollowed == Tryz.prog.unfollowed 4)) = true := by kernel_rfl
theorem j11 : ((Rows.syncNobodyRow.recurses == Tryz.prog.recurses 4)) = true := by kernel_rfl
theorem j12 : ((Rows.syncNobodyRow.named == Tryz.prog.varsNamed 4)) = true := by kernel_rfl
theorem j13 : ((Rows.syncNobodyRow.maps == (Tryz.f4.params.toList ++ (OpenSpec.ofChange Rows.syncNobodySpec).bare.plain.varTypes Tryz.prog).any (Tryz.prog.mapsRec ·))) = true := by kernel_rfl
theorem j14 : ((Rows.syncNobodyRow.ifaces == (Tryz.f4.params.toList ++ (OpenSpec.ofChange Rows.syncNobodySpec).bare.plain.varTypes Tryz.prog).any (Tryz.prog.ifacesRec ·))) = true := by kernel_rfl
theorem j15 : ((Rows.syncNobodyRow.mapsOut == Tryz.prog.mapsAmong Tryz.f4.resultTypes.toList)) = true := by kernel_rfl
theorem j16 : ((Rows.syncNobodyRow.loops == (Tryz.f4.params.toList ++ (OpenSpec.ofChange Rows.syncNobodySpec).bare.plain.varTypes Tryz.prog).any (Tryz.prog.loopsFrom ·))) = true := by kernel_rfl
theorem j17 : ((Rows.syncNobodyRow.wideKeys == (Tryz.f4.params.toList ++ (OpenSpec.ofChange Rows.syncNobodySpec).bare.plain.varTypes Tryz.prog ++ Tryz.f4.resultTypes.toList).any (Tryz.prog.wideKeysFrom ·))) = true := by kernel_rfl
theorem j18 : ((OpenSpec.ofChange Rows.syncNobodySpec).bare.vars.all (Tryz.prog.varReadable ·)) = true := by kernel_rfl
theorem j19 : (Tryz.f4.resultTypes.all (fun t => Tryz.prog.readableRec t && decide (t < Tryz.prog.types.size))) = true := by kernel_rfl
theorem j20 : ((Rows.syncNobodyRow.ifacesOut == Tryz.f4.resultTypes.toList.any (Tryz.prog.ifacesRec ·))) = true := by kernel_rfl
theorem j21 : ((Rows.syncNobodyRow.loopsOut == Tryz.f4.resultTypes.toList.any (Tryz.prog.loopsFrom ·))) = true := by kernel_rfl
theorem j22 : ((Rows.syncNobodyRow.plainKeys == Tryz.prog.plainKeys)) = true := by kernel_rfl
theorem j23 : (Rows.syncNobodyRow.shortTexts.isNone) = true := by kernel_rfl
theorem j26 : ((Rows.syncNobodyRow.lifted == Tryz.prog.liftsFinal)) = true := by kernel_rfl
theorem j27 : ((Tryz.prog.make == some Rows.syncNobodyRow.make)) = true := by kernel_rfl
theorem j28 : ((Rows.syncNobodyRow.kinds == (if Rows.syncNobodyRow.domain.isEmpty then [] else Tryz.f4.params.toList.map fun t => match Tryz.prog.underlying t with | some (.int k) => some k | _ => none))) = true := by kernel_rfl
theorem j29 : ((Rows.syncNobodyRow.pinned == Rows.syncNobodyRow.pinnedBy)) = true := by kernel_rfl
theorem j30 : ((Rows.syncNobodyRow.veiled == (Tryz.f4.params.toList ++ (OpenSpec.ofChange Rows.syncNobodySpec).bare.plain.varTypes Tryz.prog ++ Tryz.f4.resultTypes.toList).any (Tryz.prog.veiledRec ·))) = true := by kernel_rfl
theorem j31 : (Rows.syncNobodyRow.veiledFits Tryz.prog Tryz.f4.params.toList (Tryz.f4.params.toList ++ (OpenSpec.ofChange Rows.syncNobodySpec).bare.plain.varTypes Tryz.prog ++ Tryz.f4.resultTypes.toList)) = true := by kernel_rfl
set_option maxRecDepth 100000 in
theorem closed : joinedFacts Tryz.prog 4 Tryz.f4 (OpenSpec.ofChange Rows.syncNobodySpec).bare Rows.syncNobodyRow = true := by
  unfold joinedFacts
  exact Bool.and_eq_true_iff.2 ⟨Bool.and_eq_true_iff.2 ⟨Bool.and_eq_true_iff.2 ⟨Bool.and_eq_true_iff.2 ⟨Bool.and_eq_true_iff.2 ⟨Bool.and_eq_true_iff.2 ⟨Bool.and_eq_true_iff.2 ⟨Bool.and_eq_true_iff.2 ⟨Bool.and_eq_true_iff.2 ⟨Bool.and_eq_true_iff.2 ⟨Bool.and_eq_true_iff.2 ⟨Bool.and_eq_true_iff.2 ⟨Bool.and_eq_true_iff.2 ⟨Bool.and_eq_true_iff.2 ⟨Bool.and_eq_true_iff.2 ⟨Bool.and_eq_true_iff.2 ⟨Bool.and_eq_true_iff.2 ⟨Bool.and_eq_true_iff.2 ⟨Bool.and_eq_true_iff.2 ⟨Bool.and_eq_true_iff.2 ⟨Bool.and_eq_true_iff.2 ⟨Bool.and_eq_true_iff.2 ⟨Bool.and_eq_true_iff.2 ⟨Bool.and_eq_true_iff.2 ⟨Bool.and_eq_true_iff.2 ⟨Bool.and_eq_true_iff.2 ⟨Bool.and_eq_true_iff.2 ⟨Bool.and_eq_true_iff.2 ⟨Bool.and_eq_true_iff.2 ⟨Bool.and_eq_true_iff.2 ⟨Bool.and_eq_true_iff.2 ⟨j0, laidOutF⟩, mapsRowedF⟩, j3⟩, j4⟩, j5⟩, stopsF⟩, j7⟩, knobsF⟩, j9⟩, j10⟩, j11⟩, j12⟩, j13⟩, j14⟩, j15⟩, j16⟩, j17⟩, j18⟩, j19⟩, j20⟩, j21⟩, j22⟩, j23⟩, stopsHeardF⟩, mayEnterF⟩, j26⟩, j27⟩, j28⟩, j29⟩, j30⟩, j31⟩
theorem wrap : (Tryz.f4).isWrapper Tryz.prog Rows.syncNobodyRow.wrapper Rows.syncNobodyRow.mainSum := by unfold Func.isWrapper; first | (rw [if_pos (by decide +kernel)]; kernel_rfl) | (rw [if_neg (by decide +kernel)]; exact ⟨rfl, rfl⟩)
theorem inst : (Tryz.f4).isInstance Tryz.prog Rows.syncNobodyRow.origin Rows.syncNobodyRow.targs := of_decide_eq_true (by kernel_rfl)
theorem nameIs : Tryz.prog.funcNamed Rows.syncNobodyRow.func = some 4 := by kernel_rfl
theorem plain (f : FuncId) (fn : Func) (hf : Tryz.pinned.checked.prog.funcNamed "recension/recensionlaw16.SyncNobody" = some f) (hfn : Tryz.pinned.checked.prog.funcs[f]? = some fn) :
    true = Tryz.pinned.checked.prog.looks [] ∧ ∀ (j : Nat) t, fn.params[j]? = some t → Tryz.pinned.checked.prog.wantsStandIn t = false := by
  obtain rfl : f = 4 := Option.some.inj ((show Tryz.prog.funcNamed "recension/recensionlaw16.SyncNobody" = some 4 by kernel_rfl).symm.trans hf) |>.symm
  obtain rfl : fn = Tryz.f4 := (Option.some.inj (Tryz.func4.symm.trans hfn)).symm
  refine ⟨by kernel_rfl, fun j t ht => ?_⟩
  rw [Tryz.params4] at ht
  have hm : t ∈ [9, 25, 3] := by simpa using Array.mem_of_getElem? ht
  have hall : ([9, 25, 3].all fun u => !Tryz.prog.wantsStandIn u) = true := by kernel_rfl
  exact (show Tryz.prog.wantsStandIn t = false by simpa using List.all_eq_true.1 hall t hm)
theorem byText : Rows.syncNobodyRow.wfByText (OpenSpec.ofChange Rows.syncNobodySpec) = true := by kernel_rfl
theorem goes : false = Rows.syncNobodyRow.goesBy Tryz.prog := by kernel_rfl
end Go.Proofs.YtefjlobdifjogaaGreatDoor.syncNobody
