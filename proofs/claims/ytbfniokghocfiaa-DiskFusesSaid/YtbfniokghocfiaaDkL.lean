/- The library's calls at the disk: maps.Clone, slices.Sorted of maps.Keys, slices.Clone. -/
import Derived.Test.YtbfniokghocfiaaDkW
import Derived.Test.YtbfniokghocfiaaShelfG
namespace Go.Proofs.Ytbfniokghocfiaa
open Go.RowKit Go.Maps Go.Sort Go.Shelf

theorem mclone_any (w : World) (b : Nat) (D : DM) (h : MapIs w b D) :
    Calls Try.prog 23 #[.map (some b)] w fun e w' => e = .returned (.map (some w.heap.size)) ∧ MapIs w' w.heap.size D ∧ Below w.heap.size w w' := by
  have hc := AnyW.maps_Clone_owns Try.cloneM 9 (plainElem (H := Unit) Try.prog 9) b (fLen D) D w h
  change Calls Try.prog 23 _ _ _ at hc
  exact hc.mono fun e w' ⟨h1, h2, _, h4⟩ => ⟨h1, h2, h4⟩

/-- slices.Sort at this program, at the fence that asks nothing. -/
theorem sortsF (m : Nat) : AnyZ.SortsIn Try.prog Try.sorted29_ren Fence.wide m :=
  ⟨fun blk off cap ss W hH hblk hsz => callsIn_wide.2 (AnyM.slices_Sort_string Try.sort38 blk off cap ss W hH hblk hsz),
   fun p cap W => callsIn_wide.2 (AnyM.slices_Sort_string_none Try.sort38 p cap W)⟩
theorem keys_any (mb : Option Nat) (W : World) : Calls Try.prog 30 #[.map mb] W fun e w' =>
    e = .returned (.func (.func 39) #[] #[.pointer (some ⟨W.heap.size, 0, none⟩)]) ∧ w' = W.alloc (.cells #[.map mb] 54) :=
  callsIn_wide.1 (AnyZ.keys_in Try.keys30 Fence.wide 5 trivial rfl mb W)
set_option maxHeartbeats 1000000 in
theorem sorted_any (w : World) (b : Nat) (D : DM) (h : MapIs w b D) (hD : fLen D ≤ 4398046511104) :
    Calls Try.prog 29 #[.func (.func 39) #[] #[.pointer (some ⟨w.heap.size, 0, none⟩)]] (w.alloc (.cells #[.map (some b)] 54)) fun e w' =>
      ∃ v, e = .returned v ∧ w'.ownsRow w.heap.size 9 1 v (fNames D).length ((fNames D).map strV) ∧ Below w.heap.size w w' := by
  have hbl := h.lt
  have hseq : SeqGives Fence.wide 2 Try.prog 39 #[.pointer (some ⟨w.heap.size, 0, none⟩)] encStr (fun ss => ss.Perm (strKeys D)) (Maps.size D) (w.alloc (.cells #[.map (some b)] 54)) :=
    AnyZ.keys_gives (ρ := Try.keys30_ren) { Try.keys30 with } Fence.wide _ trivial rfl (by omega) w.heap.size b (fLen D) D _ (by simp) (by simp) (by
      obtain ⟨es, clock, hb, Ft, hs, hD⟩ := h
      exact ⟨es, clock, (Below.heap_alloc _ _ b hbl).trans hb, Ft, hs, hD⟩)
  have hs : Maps.size D = fLen D := rfl
  have hc := AnyZ.sorted_in Try.sorted29 Fence.wide 5 trivial trivial trivial trivial rfl (by omega) (sortsF _) (enters_of Try.func38 (by kernel_rfl) rfl) 39 #[.pointer (some ⟨w.heap.size, 0, none⟩)] trivial
    (enters_of Try.func39 (by kernel_rfl) rfl) _ _ (by rw [hs]; unfold maxLen; omega) (by rw [hs]; omega) _ hseq
  refine (callsIn_wide.1 hc).mono ?_
  rintro e w' ⟨v, ss, he, hp, hrow, _, hb⟩
  have e1 : ss.mergeSort leB = fNames D := mergeSort_of_perm hp
  have e2 : ss.length = (fNames D).length := by rw [hp.length_eq, (names_perm D).length_eq]
  refine ⟨v, he, ?_, ((Below.refl _ w).alloc (Nat.le_refl _) _).trans (hb.mono (by simp))⟩
  have hrow' : w'.ownsRow (w.alloc (.cells #[.map (some b)] 54)).heap.size 9 1 v ss.length ((ss.mergeSort leB).map encStr) := hrow
  rw [e1, e2] at hrow'
  obtain ⟨h1, h2⟩ := hrow'
  refine ⟨h1, ?_⟩
  rcases h2 with h2 | ⟨g, cap, cur, hv, hg, r⟩
  · exact .inl h2
  · exact .inr ⟨g, cap, cur, hv, by simp at hg; omega, r⟩

theorem callInfo : (Try.prog.info? 61).map (fun i => (i.zero, i.size, i.bytes)) = some (some (.agg #[.nilFunc]), 1, 8) := by kernel_rfl
theorem sclone_any (w : World) (v : Value) (n : Nat) (vs : List Value) (h : w.ownsRow 0 61 1 v n vs) (h1 : ∀ u ∈ vs, u.oneCell' = true) (hn : n ≤ 4398046511104) :
    Calls Try.prog 31 #[v] w fun e w' => ∃ v', e = .returned v' ∧ w'.ownsRow w.heap.size 61 1 v' n vs ∧ Below w.heap.size w w' := by
  rcases h.2 with ⟨rfl, rfl⟩ | ⟨g, cap, cur, rfl, hb, hg, hc1, hc2, hc3, hc4⟩
  · have hv : vs = [] := List.eq_nil_of_length_eq_zero (by simpa using h.1)
    subst hv
    have hc := AnyE.slices_Clone_nil Try.cloneS 0 0 w
    change Calls Try.prog 31 _ _ _ at hc
    exact hc.mono fun e w' ⟨he, hw⟩ => ⟨_, he, ⟨rfl, .inl ⟨rfl, rfl⟩⟩, by rw [hw]; exact Below.refl _ _⟩
  · cases hq : Try.prog.info? 61 with
    | none => have := callInfo; simp [hq] at this
    | some i =>
      have hii := callInfo
      simp only [hq, Option.map_some, Option.some.injEq, Prod.mk.injEq] at hii
      obtain ⟨hz, hsize, hby⟩ := hii
      have hc := AnyE.slices_Clone Try.cloneS i (.agg #[.nilFunc]) 1 8 hq hz hsize hby (by simp [Value.cells]) (by omega) Try.sizeOf61 g 0 n cap vs w (by simpa using h.1) (by unfold maxLen; omega) (by omega)
        (fun j u hu => by have := h.cells (g := g) rfl j u hu; rw [addr_add] at this; exact this) h1
      change Calls Try.prog 31 _ _ _ at hc
      exact hc.mono fun e w' ⟨v', he, ho, _, hb⟩ => ⟨v', he, ho, hb⟩
end Go.Proofs.Ytbfniokghocfiaa
