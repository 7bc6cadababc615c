/- SyncSpoilt: a message in which one byte is another one is refused, unless two unlike texts have one digest: the tied card: closed facts of its row. -/
import Derived.Test.YtefjlobdifjogaaGreatDoorDLawPj
namespace Go.Proofs.YtefjlobdifjogaaGreatDoor.syncSpoilt
open Go.ChangeShapes Go.WideShapes Go.ChangeAt Go.RowKit

theorem j0 : (Rows.syncSpoiltRow.wf (OpenSpec.ofChange (OpenSpec.ofChange Rows.syncSpoiltSpec).bare)) = true := by kernel_rfl
theorem j3 : (Tryz.f6.params.all (Tryz.prog.readableRec ·)) = true := by kernel_rfl
theorem j4 : (namedTie Tryz.prog Rows.syncSpoiltRow.named (OpenSpec.ofChange Rows.syncSpoiltSpec).bare.vars) = true := by kernel_rfl
theorem j5 : ((Rows.syncSpoiltRow.stops == [])) = true := by kernel_rfl
theorem j7 : ((Rows.syncSpoiltRow.knobs == [])) = true := by kernel_rfl
theorem j9 : ((Rows.syncSpoiltRow.inPlace == Tryz.prog.inPlace 6)) = true := by kernel_rfl
theorem j10 : ((Rows.syncSpoiltRow.unfollowed == Tryz.prog.unfollowed 6)) = true := by kernel_rfl
theorem j11 : ((Rows.syncSpoiltRow.recurses == Tryz.prog.recurses 6)) = true := by kernel_rfl
theorem j12 : ((Rows.syncSpoiltRow.named == Tryz.prog.varsNamed 6)) = true := by kernel_rfl
theorem j13 : ((Rows.syncSpoiltRow.maps == (Tryz.f6.params.toList ++ (OpenSpec.ofChange Rows.syncSpoiltSpec).bare.plain.varTypes Tryz.prog).any (Tryz.prog.mapsRec ·))) = true := by kernel_rfl
theorem j14 : ((Rows.syncSpoiltRow.ifaces == (Tryz.f6.params.toList ++ (OpenSpec.ofChange Rows.syncSpoiltSpec).bare.plain.varTypes Tryz.prog).any (Tryz.prog.ifacesRec ·))) = true := by kernel_rfl
theorem j15 : ((Rows.syncSpoiltRow.mapsOut == Tryz.prog.mapsAmong Tryz.f6.resultTypes.toList)) = true := by kernel_rfl
theorem j16 : ((Rows.syncSpoiltRow.loops == (Tryz.f6.params.toList ++ (OpenSpec.ofChange Rows.syncSpoiltSpec).bare.plain.varTypes Tryz.prog).any (Tryz.prog.loopsFrom ·))) = true := by kernel_rfl
theorem j17 : ((Rows.syncSpoiltRow.wideKeys == (Tryz.f6.params.toList ++ (OpenSpec.ofChange Rows.syncSpoiltSpec).bare.plain.varTypes Tryz.prog ++ Tryz.f6.resultTypes.toList).any (Tryz.prog.wideKeysFrom ·))) = true := by kernel_rfl
theorem j18 : ((OpenSpec.ofChange Rows.syncSpoiltSpec).bare.vars.all (Tryz.prog.varReadable ·)) = true := by kernel_rfl
theorem j19 : (Tryz.f6.resultTypes.all (fun t => Tryz.prog.readableRec t && decide (t < Tryz.prog.types.size))) = true := by kernel_rfl
theorem j20 : ((Rows.syncSpoiltRow.ifacesOut == Tryz.f6.resultTypes.toList.any (Tryz.prog.ifacesRec ·))) = true := by kernel_rfl
theorem j21 : ((Rows.syncSpoiltRow.loopsOut == Tryz.f6.resultTypes.toList.any (Tryz.prog.loopsFrom ·))) = true := by kernel_rfl
theorem j22 : ((Rows.syncSpoiltRow.plainKeys == Tryz.prog.plainKeys)) = true := by kernel_rfl
theorem j23 : (Rows.syncSpoiltRow.shortTexts.isNone) = true := by kernel_rfl
theorem j26 : ((Rows.syncSpoiltRow.lifted == Tryz.prog.liftsFinal)) = true := by kernel_rfl
theorem j27 : ((Tryz.prog.make == some Rows.syncSpoiltRow.make)) = true := by kernel_rfl
theorem j28 : ((Rows.syncSpoiltRow.kinds == (if Rows.syncSpoiltRow.domain.isEmpty then [] else Tryz.f6.params.toList.map fun t => match Tryz.prog.underlying t with | some (.int k) => some k | _ => none))) = true := by kernel_rfl
theorem j29 : ((Rows.syncSpoiltRow.pinned == Rows.syncSpoiltRow.pinnedBy)) = true := by kernel_rfl
theorem j30 : ((Rows.syncSpoiltRow.veiled == (Tryz.f6.params.toList ++ (OpenSpec.ofChange Rows.syncSpoiltSpec).bare.plain.varTypes Tryz.prog ++ Tryz.f6.resultTypes.toList).any (Tryz.prog.veiledRec ·))) = true := by kernel_rfl
theorem j31 : (Rows.syncSpoiltRow.veiledFits Tryz.prog Tryz.f6.params.toList (Tryz.f6.params.toList ++ (OpenSpec.ofChange Rows.syncSpoiltSpec).bare.plain.varTypes Tryz.prog ++ Tryz.f6.resultTypes.toList)) = true := by kernel_rfl
set_option maxRecDepth 100000 in
theorem closed : joinedFacts Tryz.prog 6 Tryz.f6 (OpenSpec.ofChange Rows.syncSpoiltSpec).bare Rows.syncSpoiltRow = true := by
  unfold joinedFacts
  exact Bool.and_eq_true_iff.2 ⟨Bool.and_eq_true_iff.2 ⟨Bool.and_eq_true_iff.2 ⟨Bool.and_eq_true_iff.2 ⟨Bool.and_eq_true_iff.2 ⟨Bool.and_eq_true_iff.2 ⟨Bool.and_eq_true_iff.2 ⟨Bool.and_eq_true_iff.2 ⟨Bool.and_eq_true_iff.2 ⟨Bool.and_eq_true_iff.2 ⟨Bool.and_eq_true_iff.2 ⟨Bool.and_eq_true_iff.2 ⟨Bool.and_eq_true_iff.2 ⟨Bool.and_eq_true_iff.2 ⟨Bool.and_eq_true_iff.2 ⟨Bool.and_eq_true_iff.2 ⟨Bool.and_eq_true_iff.2 ⟨Bool.and_eq_true_iff.2 ⟨Bool.and_eq_true_iff.2 ⟨Bool.and_eq_true_iff.2 ⟨Bool.and_eq_true_iff.2 ⟨Bool.and_eq_true_iff.2 ⟨Bool.and_eq_true_iff.2 ⟨Bool.and_eq_true_iff.2 ⟨Bool.and_eq_true_iff.2 ⟨Bool.and_eq_true_iff.2 ⟨Bool.and_eq_true_iff.2 ⟨Bool.and_eq_true_iff.2 ⟨Bool.and_eq_true_iff.2 ⟨Bool.and_eq_true_iff.2 ⟨Bool.and_eq_true_iff.2 ⟨j0, laidOutF⟩, mapsRowedF⟩, j3⟩, j4⟩, j5⟩, stopsF⟩, j7⟩, knobsF⟩, j9⟩, j10⟩, j11⟩, j12⟩, j13⟩, j14⟩, j15⟩, j16⟩, j17⟩, j18⟩, j19⟩, j20⟩, j21⟩, j22⟩, j23⟩, stopsHeardF⟩, mayEnterF⟩, j26⟩, j27⟩, j28⟩, j29⟩, j30⟩, j31⟩
theorem wrap : (Tryz.f6).isWrapper Tryz.prog Rows.syncSpoiltRow.wrapper Rows.syncSpoiltRow.mainSum := by unfold Func.isWrapper; first | (rw [if_pos (by decide +kernel)]; kernel_rfl) | (rw [if_neg (by decide +kernel)]; exact ⟨rfl, rfl⟩)
theorem inst : (Tryz.f6).isInstance Tryz.prog Rows.syncSpoiltRow.origin Rows.syncSpoiltRow.targs := of_decide_eq_true (by kernel_rfl)
theorem nameIs : Tryz.prog.funcNamed Rows.syncSpoiltRow.func = some 6 := by kernel_rfl
theorem plain (f : FuncId) (fn : Func) (hf : Tryz.pinned.checked.prog.funcNamed "recension/recensionlaw16.SyncSpoilt" = some f) (hfn : Tryz.pinned.checked.prog.funcs[f]? = some fn) :
    true = Tryz.pinned.checked.prog.looks [] ∧ ∀ (j : Nat) t, fn.params[j]? = some t → Tryz.pinned.checked.prog.wantsStandIn t = false := by
  obtain rfl : f = 6 := Option.some.inj ((show Tryz.prog.funcNamed "recension/recensionlaw16.SyncSpoilt" = some 6 by kernel_rfl).symm.trans hf) |>.symm
  obtain rfl : fn = Tryz.f6 := (Option.some.inj (Tryz.func6.symm.trans hfn)).symm
  refine ⟨by kernel_rfl, fun j t ht => ?_⟩
  rw [Tryz.params6] at ht
  have hm : t ∈ [25, 3, 5] := by simpa using Array.mem_of_getElem? ht
  have hall : ([25, 3, 5].all fun u => !Tryz.prog.wantsStandIn u) = true := by kernel_rfl
  exact (show Tryz.prog.wantsStandIn t = false by simpa using List.all_eq_true.1 hall t hm)
theorem byText : Rows.syncSpoiltRow.wfByText (OpenSpec.ofChange Rows.syncSpoiltSpec) = true := by kernel_rfl
theorem goes : false = Rows.syncSpoiltRow.goesBy Tryz.prog := by kernel_rfl
end Go.Proofs.YtefjlobdifjogaaGreatDoor.syncSpoilt
