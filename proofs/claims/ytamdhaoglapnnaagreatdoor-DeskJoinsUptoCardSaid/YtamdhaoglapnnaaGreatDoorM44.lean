/- From a walk that returns true and turns nothing that was there to a law's row: the row's last step, at any parameters. -/
import Derived.WalkKit
import Derived.ProofKit
import Derived.OpenShut
import Derived.Carry
import Derived.ChangeSame
import Derived.Deep.DeepHandedRow
import Derived.Test.YtamdhaoglapnnaaGreatDoorCards
import Derived.Test.YtamdhaoglapnnaaGreatDoorTie
import Derived.Test.YtamdhaoglapnnaaGreatDoorM26
import Derived.Test.YtamdhaoglapnnaaGreatDoorM03
import Derived.Test.YtamdhaoglapnnaaGreatDoorM11
import Derived.Lib.LaidTab
import Derived.SizedLaws
import Derived.Stop.LaidErr
section
namespace Go.Proofs.YtamdhaoglapnnaaGreatDoor
open Go.ChangeShapes Go.WideShapes Go.ChangeAt Go.RowKit

section
variable {H : Type} {enc : TypeId × Value → H} {P : Program}
theorem trodAll_below (hl : laidOutB P = true) {W W' : World} (hb : Below W.heap.size W W') : ∀ (ts : List TypeId) (vs : List Value) (ds : List (DataW H)) (ps : List MemPlace),
    (∀ t ∈ ts, P.readableRec t = true ∧ t < P.types.size) → DataW.TrodAll enc P W 0 (fun _ => true) true ts vs ds ps → (∀ x ∈ ps, x.block < W.heap.size) →
    DataW.TrodAll enc P W' 0 (fun b => decide (b < W.heap.size)) true ts vs ds ps
  | [], vs, ds, ps, _, h, _ => by
    obtain ⟨rfl, rfl, rfl⟩ := trodAll_nil h
    exact trodAll_mk0
  | t :: ts, vs, ds, ps, hr, h, hlt => by
    obtain ⟨v, vs', d, ds', p, q, rfl, rfl, rfl, h0, h1⟩ := trodAll_cons h
    refine trodAll_cons_mk (Below.trod hl (hr t (by simp)).1 (hr t (by simp)).2 h0 hb (fun x hx => hlt x (by simp [hx]))) ?_
    exact trodAll_below hl hb ts vs' ds' q (fun t ht => hr t (by simp [ht])) h1 (fun x hx => hlt x (by simp [hx]))

theorem law_post (hl : laidOutB P = true) {f : Func} {s : ChangeSpec} {tb : TypeId} (hres : f.resultTypes = #[tb]) (hb4 : P.underlying tb = some .bool) (hvars : s.vars = [])
    (hpar : ∀ t ∈ f.params.toList, P.readableRec t = true ∧ t < P.types.size) {W W' : World} {args : Array Value} {ds gs : List (DataW H)} {before : List MemPlace}
    (hW : DataW.Whole enc P f.params.toList s.vars false W args.toList ds gs before) (hfn : s.fn H (ds ++ gs) = { results := [.lit (.bool true)], args := ds }) (hb : Below W.heap.size W W') :
    s.post enc P f false true false false W args (.bool true) W' := by
  have hW' := hW
  obtain ⟨p, q, hA, hV, rfl, _, _⟩ := hW
  rw [hvars] at hV
  obtain ⟨rfl, rfl⟩ := trodVars_none hV
  have hlt : ∀ x ∈ p ++ [], x.block < W.heap.size := fun x hx => hW'.lt x hx
  refine ⟨ds, [], p ++ [], [], p, [], hW', ?_, ?_, ?_, World.keptBut_mono (fun x hx => ⟨hx, .inr (by simpa using hx)⟩) (hb.frame (· ∈ p ++ [])), fun h => by cases h⟩
  · rw [hfn, hres]
    exact trodAll_mk1 (shut_bool hb4 _)
  · rw [hfn]
    exact trodAll_below hl hb _ _ _ _ hpar hA (fun x hx => hlt x (by simpa using hx))
  · rw [hfn, hvars]
    rfl
end
end Go.Proofs.YtamdhaoglapnnaaGreatDoor
end
section
/- What the listed variables give; a world for the witnesses. -/
namespace Go.Proofs.YtamdhaoglapnnaaGreatDoor
open Go.ChangeShapes Go.WideShapes Go.ChangeAt Go.RowKit

theorem own : ownKnob Tryz.prog.godebug = none := by kernel_rfl
theorem laidOut : laidOutB Tryz.prog = true := by kernel_rfl
def tab0 : List Int := [0, 1, 28, 2, 29, 14, 24, 3, 30, 22, 20, 15, 25, 17, 4, 8, 31, 27, 13, 23, 21, 19, 16, 7, 26, 12, 18, 6, 11, 5, 10, 9]
def tab1 : List Int := [0, 1, 56, 2, 57, 49, 28, 3, 61, 58, 42, 50, 38, 29, 17, 4, 62, 47, 59, 36, 45, 43, 51, 22, 53, 39, 33, 30, 24, 18, 12, 5, 63, 55, 48, 27, 60, 41, 37, 16, 46, 35, 44, 21, 52, 32, 23, 11, 54, 26, 40, 15, 34, 20, 31, 10, 25, 14, 19, 9, 13, 8, 7, 6]
def tab2 : List Int := [1, 10, 100, 1000, 10000, 100000, 1000000, 10000000, 100000000, 1000000000, 10000000000, 100000000000, 1000000000000, 10000000000000, 100000000000000, 1000000000000000, 10000000000000000, 100000000000000000, 1000000000000000000, 10000000000000000000]
def tab3 : List Int := [128, 191, 160, 191, 128, 159, 144, 191, 128, 143, 0, 0, 0, 0, 0, 0, 0, 0, 0, 0, 0, 0, 0, 0, 0, 0, 0, 0, 0, 0, 0, 0]
noncomputable def low : Nat := (World.holding Tryz.prog default ⟨#[], #[], []⟩).heap.size
noncomputable def laidWorld (os : Os) : World :=
  { World.holding Tryz.prog os ⟨#[.cells #[.string ⟨#[118, 97, 108, 117, 101, 32, 111, 117, 116, 32, 111, 102, 32, 114, 97, 110, 103, 101]⟩] 379, .cells #[.string ⟨#[105, 110, 118, 97, 108, 105, 100, 32, 115, 121, 110, 116, 97, 120]⟩] 379], #[], []⟩ with heap := ((((((((((World.holding Tryz.prog os ⟨#[.cells #[.string ⟨#[118, 97, 108, 117, 101, 32, 111, 117, 116, 32, 111, 102, 32, 114, 97, 110, 103, 101]⟩] 379, .cells #[.string ⟨#[105, 110, 118, 97, 108, 105, 100, 32, 115, 121, 110, 116, 97, 120]⟩] 379], #[], []⟩).heap).modify 6 fun
      | .cells _ t frozen => .cells (tab0.map (Value.int .u8)).toArray t frozen
      | o => o).modify 7 fun
      | .cells _ t frozen => .cells (tab1.map (Value.int .u8)).toArray t frozen
      | o => o).modify 3 fun
      | .cells _ t frozen => .cells (tab2.map (Value.int .u64)).toArray t frozen
      | o => o).modify 9 fun
      | .cells _ t frozen => .cells (tab3.map (Value.int .u8)).toArray t frozen
      | o => o).modify 2 fun
      | .cells _ t frozen => .cells #[.iface 377 (.pointer (some ⟨low + 0, 0, none⟩))] t frozen
      | o => o).modify 1 fun
      | .cells _ t frozen => .cells #[.iface 377 (.pointer (some ⟨low + 1, 0, none⟩))] t frozen
      | o => o).modify 4 fun
      | .cells _ t frozen => .cells (keysL.map W).toArray t frozen
      | o => o).modify 8 fun
      | .cells _ t frozen => .cells (Go.Pinned.utf8FirstZ.map fun (n : Nat) => Value.int .u8 n).toArray t frozen
      | o => o) }
theorem bool_res : Tryz.prog.underlying 4 = some .bool := Tryz.underlying4
theorem gPowType : (Tryz.prog.globals[3]?).map (·.type) = some 326 := by kernel_rfl
theorem cells20 : Tryz.prog.cellsOf 326 = 20 := by kernel_rfl
theorem cellsU64 : Tryz.prog.cellsOf 83 = 1 := by kernel_rfl
theorem gSynt : Tryz.prog.globalNamed "strconv.ErrSyntax" = some 1 := by kernel_rfl
theorem gSyntType : (Tryz.prog.globals[1]?).map (·.type) = some 53 := by kernel_rfl
theorem starErr : "*" ++ "errors.errorString" = "*errors.errorString" := by decide
theorem rowErr (u : TypeId) (h : Tryz.prog.typeName? 3 u = some "*errors.errorString") : u = 377 :=
  typeName_ptr_named (nm := "errors.errorString") (by rw [starErr]; kernel_rfl) (by kernel_rfl) (by decide) u (by rw [starErr]; exact h)
theorem cellsErr : Tryz.prog.cellsOf 379 = 1 := by kernel_rfl
theorem cellsStr : Tryz.prog.cellsOf 9 = 1 := by kernel_rfl
theorem gKeys : Tryz.prog.globalNamed "recension/digest.keys" = some 4 := by kernel_rfl
theorem gKeysType : (Tryz.prog.globals[4]?).map (·.type) = some 382 := by kernel_rfl
theorem cells64 : Tryz.prog.cellsOf 382 = 64 := by kernel_rfl
theorem cells32 : Tryz.prog.cellsOf 298 = 1 := by kernel_rfl
def keysZ : List Int := keysL.map wv
theorem cell_of_var {w : World} {name : String} {g : Nat} {v : Value} (hg : Tryz.prog.globalNamed name = some g) (h : w.var? Tryz.prog name = some #[v]) : w.cell? ⟨g, 0, none⟩ = some v := by
  unfold World.var? at h
  rw [hg] at h
  simp only [Option.bind_some] at h
  unfold World.cell?
  cases ho : w.heap[g]? with
  | none => rw [ho] at h; cases h
  | some o =>
    rw [ho] at h
    cases o <;> simp_all
/-- What a desk leans on. -/
structure DeskIn (w : World) : Prop where
  keys : KeysIn w
  tab : TabK w
  err : ErrIn w
theorem desk_laid {W : World} (h : laidMetH Tryz.prog Rows.deskNobodyRow.laid W) : DeskIn W := by
  have h3 := laidMet.tail (laidMet.tail h)
  have h5 := laidMet.tail (laidMet.tail (laidMet.tail h3))
  have h6 := laidMet.tail h5
  refine ⟨?_, ?_, ?_⟩
  · have ht : Lib.TabIs Tryz.prog W "recension/digest.keys" .u32 keysZ :=
      Lib.tabIs_of_head (rest := _) gKeys gKeysType Tryz.underlying382 Tryz.underlying298 cells32 cells64 h6
    intro i hi
    have := ht.cell gKeys i (by show i < 64; exact hi)
    rw [this]
    have hl : i < keysL.length := hi
    simp [keysZ, hl]
  · exact Lib.tabIs_of_head (rest := _) gPow gPowType Tryz.underlying326 Tryz.underlying83 cellsU64 cells20 h3
  · obtain ⟨a2, _, hv2, _⟩ := laid_sentinel h5 gSynt gSyntType Tryz.underlying53 rowErr Tryz.underlying377 Tryz.underlying379 rfl rfl Tryz.underlying9 cellsErr cellsStr
    exact ⟨_, _, cell_of_var gSynt hv2⟩
theorem DeskIn.below {w w' : World} (h : DeskIn w) (hb : Below w.heap.size w w') : DeskIn w' := ⟨keys_below h.keys hb, tabK_below h.tab hb, h.err.below hb⟩
end Go.Proofs.YtamdhaoglapnnaaGreatDoor
end
