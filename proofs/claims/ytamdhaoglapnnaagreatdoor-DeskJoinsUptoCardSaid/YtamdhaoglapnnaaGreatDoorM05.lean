/- Joined: RjIJ, RjLK, RjQS, RjIns, RjApp. -/
import Derived.Test.YtamdhaoglapnnaaGreatDoorM04
import Derived.Shelf.Abstract
import Derived.Deep.RegionHeld3
import Derived.Lib.AppendZerosOnto
import Derived.Lib.AppendZeros
import Derived.Lib.Overlaps
section
/- Joined: RfI, RfJ. -/
section
/- The walks of at and of the library's binary search. -/
namespace Go.Proofs.YtamdhaoglapnnaaGreatDoor
open Go.RowKit

def cmpS (a b : Str) : Int := if lessS a b then -1 else if a = b then 0 else 1
theorem cmp_eq : ∀ (a b : Str), Lib.compareBytes a b = cmpS a b
  | [], [] => rfl
  | [], _ :: _ => rfl
  | _ :: _, [] => rfl
  | x :: a, y :: b => by
    have ih := cmp_eq a b
    unfold cmpS at ih ⊢
    rw [lessS_cons]
    unfold Lib.compareBytes
    by_cases h1 : x < y
    · simp [h1]
    · by_cases h2 : y < x
      · have : x ≠ y := fun e => by subst e; exact h1 h2
        simp [h1, h2, this]
      · have : x = y := by
          rw [UInt8.lt_iff_toNat_lt] at h1 h2
          exact UInt8.toNat_inj.1 (by omega)
        subst this
        simp [h1, ih]
theorem cmp_any (a b : Str) (w : World) : Calls Tryz.prog 100 #[.string ⟨a.toArray⟩, .string ⟨b.toArray⟩] w fun e w' => e = .returned (.int .i64 (cmpS a b)) ∧ w = w' := by
  have h := Tryz.strings_Compare ⟨a.toArray⟩ ⟨b.toArray⟩ w
  exact h.mono fun e w' ⟨h1, h2⟩ => ⟨by rw [h1, ← cmp_eq], h2.symm⟩
set_option maxRecDepth 100000 in
set_option maxHeartbeats 1000000 in
theorem atc_any (n s : Str) (u : Value) (w : World) :
    Calls Tryz.prog 300 #[.agg #[strV n, u], strV s] w fun e w' => e = .returned (.int .i64 (cmpS n s)) ∧ Below w.heap.size w w' := by
  have hc := Lib.hid (cmp_any n s)
  have hB : Blk (w.alloc (.cells #[strV n, u] 138)) w.heap.size 138 [strV n, u] := Blk.new_at (cs := [strV n, u]) rfl
  have c0 : (w.alloc (.cells #[strV n, u] 138)).cell? ⟨w.heap.size, 0, none⟩ = some (.string ⟨n.toArray⟩) := by rw [hB.cell]; rfl
  have hb : Below w.heap.size w (w.alloc (.cells #[strV n, u] 138)) := (Below.refl _ _).alloc (Nat.le_refl _) _
  clear hB
  unfold strV at c0 hb ⊢
  replace hb := Lib.hid hb
  go_enter Tryz.func300, Tryz.ntmps300
  go_wp2_with ((go_at_call 100; refine (hc.out _).mono ?_; rintro e w' ⟨rfl, rfl⟩))
  go_ret
  exact ⟨rfl, hb.out⟩

/-! ### places in a sorted table -/
theorem sorted_lt {T : Tab} (h : sorted T) {i j : Nat} (hij : i < j) (hj : j < T.length) : lessS (T[i]'(by omega)).name T[j].name = true := by
  exact (List.pairwise_iff_getElem.1 h) i j (by omega) hj hij
theorem posT_le (T : Tab) (n : Str) : posT T n ≤ T.length := by
  unfold posT
  induction T with
  | nil => simp
  | cons b r ih =>
    rw [List.takeWhile_cons]
    split
    · simp only [List.length_cons]; omega
    · simp
theorem posT_of : ∀ {T : Tab} {n : Str} {p : Nat}, p ≤ T.length → (∀ x (h : x < T.length), x < p → lessS T[x].name n = true) → (∀ h : p < T.length, lessS T[p].name n = false) → posT T n = p
  | [], _, p, hp, _, _ => by simp at hp; subst hp; rfl
  | b :: r, n, 0, _, _, h2 => by
    have := h2 (by simp)
    simp only [posT, List.takeWhile_cons]
    have e : lessS b.name n = false := by simpa using this
    rw [e]
    rfl
  | b :: r, n, p + 1, hp, h1, h2 => by
    have e : lessS b.name n = true := by have := h1 0 (by simp) (by omega); simpa using this
    have ih : posT r n = p := posT_of (by simpa using hp) (fun x hx hxp => by have := h1 (x + 1) (by simpa using hx) (by omega); simpa using this) (fun h => by have := h2 (by simpa using h); simpa using this)
    unfold posT at ih ⊢
    rw [List.takeWhile_cons, if_pos e, List.length_cons, ih]
def hitT (T : Tab) (n : Str) : Bool := match T[posT T n]? with | some b => decide (b.name = n) | none => false
theorem less_of_ge {a b n : Str} (h : lessS a b = true) (hn : lessS a n = false) : lessS b n = false := by
  cases hb : lessS b n with
  | false => rfl
  | true => rw [lessS_trans _ _ _ h hb] at hn; cases hn
theorem cmp_neg (a b : Str) : decide (cmpS a b < 0) = lessS a b := by
  unfold cmpS
  cases lessS a b
  · simp only [Bool.false_eq_true, if_false]
    split <;> rfl
  · rfl
theorem cmp_zero (a b : Str) : (cmpS a b == 0) = decide (a = b) := by
  unfold cmpS
  cases h : lessS a b with
  | true =>
    have := lessS_ne h
    simp [this]
  | false =>
    simp only [Bool.false_eq_true, if_false]
    split
    · rename_i e; simp [e]
    · rename_i e; simp [e]
set_option maxRecDepth 100000 in
set_option maxHeartbeats 4000000 in
theorem bsf_any (T : Tab) (v : Value) (s : Str) (ok : Nat → Prop) (w : World) (h : TabIs w ok v T) (hf : T.length ≤ 3518437208832) (hs : sorted T) :
    Calls Tryz.prog 299 #[v, strV s, .func (.func 300) #[] #[]] w fun e w' => e = .returned (.tuple #[.int .i64 (posT T s), .bool (hitT T s)]) ∧ Below w.heap.size w w' := by
  obtain ⟨A, c, rfl, hc⟩ := h.form
  have hT := Lib.hid h.ltB
  replace hs := Lib.hid hs
  have hcall := Lib.hid (fun n u W => atc_any n s u W)
  clear h hc
  unfold strV
  unfold strV at hcall
  go_enter Tryz.func299, Tryz.ntmps299
  go_wp2
  go_loopw [9, 10] (fun i j wr => ∃ a b : Nat, a ≤ b ∧ b ≤ T.length ∧ i = .int .i64 a ∧ j = .int .i64 b ∧ Hid ((∀ x (h : x < T.length), x < a → lessS T[x].name s = true) ∧ (∀ x (h : x < T.length), b ≤ x → lessS T[x].name s = false)) ∧ Below w.heap.size w wr) (fun i j _ => (intOf j).toNat - (intOf i).toNat)
  case atStart => exact ⟨0, T.length, Nat.zero_le _, Nat.le_refl _, rfl, rfl, Lib.hid ⟨fun x _ hx => by omega, fun x hx hx2 => by omega⟩, Below.refl _ _⟩
  case round =>
    obtain ⟨a, b, hab, hbl, rfl, rfl, hrng, hb⟩ := hrel
    by_cases hlt : a < b
    · obtain ⟨m, hm⟩ : ∃ m, m = (a + b) / 2 := ⟨_, rfl⟩
      have hm1 : a ≤ m := by omega
      have hm2 : m < b := by omega
      have hml : m < T.length := by omega
      obtain ⟨g, o, u, rfl, hgl, _, _, c0, c1⟩ := (hT.out.low hb).br m hml
      have hcells := Lib.hid (two_cells c0 c1)
      have hcmp := cmp_neg T[m].name s
      have hlo : Hid (lessS T[m].name s = true → ∀ x (h : x < T.length), x < m + 1 → lessS T[x].name s = true) := Lib.hid (fun e x hx hxm => by
        by_cases he : x = m
        · subst he; exact e
        · exact lessS_trans _ _ _ (sorted_lt hs.out (show x < m by omega) hml) e)
      have hhi : Hid (lessS T[m].name s = false → ∀ x (h : x < T.length), m ≤ x → lessS T[x].name s = false) := Lib.hid (fun e x hx hxm => by
        by_cases he : x = m
        · subst he; exact e
        · exact less_of_ge (sorted_lt hs.out (show m < x by omega) hx) e)
      have hca := Lib.hid (hcall.out T[m].name u)
      obtain ⟨n, hn⟩ : ∃ n, n = T[m].name := ⟨_, rfl⟩
      rw [← hn] at hcells hcmp hlo hhi hca
      clear hn c0 c1
      obtain ⟨z, hz⟩ : ∃ z, z = cmpS n s := ⟨_, rfl⟩
      obtain ⟨t, ht⟩ : ∃ t, t = lessS n s := ⟨_, rfl⟩
      rw [← hz] at hcmp hca
      rw [← ht] at hcmp hlo hhi
      clear hz ht
      have e1 : IntKind.i64.wrap ((a : Int) + (b : Int)) = (a : Int) + (b : Int) := IntWalk.i64_in _ (by omega)
      have e2 : ((a : Int) + (b : Int)) / 2 = (m : Int) := by omega
      have i1 : (0 : Int) ≤ (m : Int) := by omega
      have i2 : (m : Int) < (T.length : Int) := by omega
      replace hm := Lib.hid hm
      go_wp2_with (first
        | (refine wpList_load_at 138 (.tmp 27) rfl rfl g (o + m * 2) rfl [.string ⟨n.toArray⟩, u] hcells.out _ Tryz.underlying138 rfl brSz ?_; go_frame))
      refine (hca.out _).mono ?_
      rintro e w2 ⟨rfl, hb2⟩
      have hb3 := hb.trans (hb2.mono hb.size)
      clear hb2
      cases t with
      | true =>
        go_wp2
        go_roundw
        case rel => exact ⟨m + 1, b, by omega, hbl, by go_num, rfl, Lib.hid ⟨hlo.out (by simp), hrng.out.2⟩, hb3⟩
        case measure => simp [intOf]; omega
      | false =>
        go_wp2
        go_roundw
        case rel => exact ⟨a, m, hm1, by omega, rfl, rfl, Lib.hid ⟨hrng.out.1, hhi.out (by simp)⟩, hb3⟩
        case measure => simp [intOf]; omega
    · obtain rfl : a = b := by omega
      have hp : Hid (posT T s = a) := Lib.hid (posT_of hbl hrng.out.1 (fun h => hrng.out.2 a h (Nat.le_refl _)))
      clear hab
      by_cases hin : a < T.length
      · obtain ⟨g, o, u, rfl, hgl, _, _, c0, c1⟩ := (hT.out.low hb).br a hin
        have hcells := Lib.hid (two_cells c0 c1)
        have hcmp := cmp_zero T[a].name s
        have hhit : Hid (hitT T s = decide (T[a].name = s)) := Lib.hid (by unfold hitT; rw [hp.out, List.getElem?_eq_getElem hin])
        have hca := Lib.hid (hcall.out T[a].name u)
        obtain ⟨n, hn⟩ : ∃ n, n = T[a].name := ⟨_, rfl⟩
        rw [← hn] at hcells hcmp hca hhit
        clear hn c0 c1
        obtain ⟨z, hz⟩ : ∃ z, z = cmpS n s := ⟨_, rfl⟩
        obtain ⟨t, ht⟩ : ∃ t, t = decide (n = s) := ⟨_, rfl⟩
        rw [← hz] at hcmp hca
        rw [← ht] at hcmp hhit
        clear hz ht
        have i1 : (0 : Int) ≤ (a : Int) := by omega
        have i2 : (a : Int) < (T.length : Int) := by omega
        have d1 : decide ((a : Int) < (T.length : Int)) = true := by simpa using hin
        go_wp2_with (first
          | (refine wpList_load_at 138 (.tmp 43) rfl rfl g (o + a * 2) rfl [.string ⟨n.toArray⟩, u] hcells.out _ Tryz.underlying138 rfl brSz ?_; go_frame))
        refine (hca.out _).mono ?_
        rintro e w2 ⟨rfl, hb2⟩
        have hb3 := hb.trans (hb2.mono hb.size)
        clear hb2
        go_wp2
        go_ret2
        exact ⟨two_ret (by rw [hp.out]; rfl) (by rw [hhit.out]; rfl), hb3⟩
      · have hhit : Hid (hitT T s = false) := Lib.hid (by unfold hitT; rw [hp.out, List.getElem?_eq_none (by omega)])
        have d1 : decide ((a : Int) < (T.length : Int)) = false := decide_eq_false (by omega)
        go_wp2
        go_ret2
        exact ⟨two_ret (by rw [hp.out]; rfl) (by rw [hhit.out]; rfl), hb⟩
end Go.Proofs.YtamdhaoglapnnaaGreatDoor
end

section
/- The walks of at, stands, and of what is wrong with a change. -/
namespace Go.Proofs.YtamdhaoglapnnaaGreatDoor
open Go.RowKit

theorem posT_lt {T : Tab} {n : Str} : ∀ x (h : x < T.length), x < posT T n → lessS T[x].name n = true := by
  intro x h hx
  unfold posT at hx
  induction T generalizing x with
  | nil => simp at h
  | cons b r ih =>
    rw [List.takeWhile_cons] at hx
    split at hx
    · rename_i hb
      cases x with
      | zero => exact hb
      | succ x => exact ih x (by simpa using h) (by simpa using hx)
    · simp at hx
theorem posT_ge {T : Tab} {n : Str} (h : posT T n < T.length) : lessS T[posT T n].name n = false := by
  induction T with
  | nil => simp at h
  | cons b r ih =>
    by_cases hb : lessS b.name n = true
    · have e : posT (b :: r) n = posT r n + 1 := by unfold posT; rw [List.takeWhile_cons, if_pos hb, List.length_cons]
      have h' : posT r n < r.length := by rw [e] at h; simpa using h
      have := ih h'
      simpa [e] using this
    · have e : posT (b :: r) n = 0 := by unfold posT; rw [List.takeWhile_cons, if_neg hb]; rfl
      have : lessS b.name n = false := by simpa using hb
      simpa [e] using this
theorem getT_hit {T : Tab} (hs : sorted T) (n : Str) : getT T n = match T[posT T n]? with | some b => if b.name = n then b.heads else [] | none => [] := by
  have hle := posT_le T n
  have hlt := @posT_lt T n
  have hno : ∀ x (h : x < T.length), x ≠ posT T n → T[x].name ≠ n := by
    intro x h hx e
    rcases Nat.lt_or_ge x (posT T n) with h1 | h1
    · have := hlt x h h1; rw [e, lessS_irr] at this; cases this
    · have hp : posT T n < T.length := by omega
      have g1 := posT_ge hp
      have g2 := sorted_lt hs (show posT T n < x by omega) h
      rw [e] at g2
      rw [g1] at g2; cases g2
  unfold getT
  cases hf : T.find? (fun b => b.name == n) with
  | none =>
    rw [List.find?_eq_none] at hf
    cases hp : T[posT T n]? with
    | none => rfl
    | some b =>
      have hm := List.mem_of_getElem? hp
      have := hf b hm
      simp only [beq_iff_eq] at this
      simp [this]
  | some b =>
    have hm := List.mem_of_find?_eq_some hf
    have he : b.name = n := by have := List.find?_some hf; simpa using this
    obtain ⟨x, hx, rfl⟩ := List.mem_iff_getElem.1 hm
    have hxp : x = posT T n := by
      rcases Nat.decEq x (posT T n) with h1 | h1
      · exact absurd he (hno x hx h1)
      · exact h1
    subst hxp
    simp [hx, he]
set_option maxRecDepth 100000 in
set_option maxHeartbeats 1000000 in
theorem at_any (T : Tab) (v : Value) (s : Str) (ok : Nat → Prop) (w : World) (h : TabIs w ok v T) (hf : T.length ≤ 3518437208832) (hs : sorted T) :
    Calls Tryz.prog 245 #[v, strV s] w fun e w' => e = .returned (.tuple #[.int .i64 (posT T s), .bool (hitT T s)]) ∧ Below w.heap.size w w' := by
  have hb := Lib.hid (bsf_any T v s ok w h hf hs)
  obtain ⟨A, c, rfl, hc⟩ := h.form
  clear h hs hc
  unfold strV at hb ⊢
  go_enter Tryz.func245, Tryz.ntmps245
  go_wp2_with fail
  refine hb.out.mono ?_
  rintro e w' ⟨rfl, hb2⟩
  go_wp2
  go_ret2
  exact ⟨rfl, hb2⟩
set_option maxRecDepth 100000 in
set_option maxHeartbeats 2000000 in
/-- What a name stands for: one value, in whatever world over this one. -/
theorem stands_any (T : Tab) (v : Value) (s : Str) (ok : Nat → Prop) (w : World) (h : TabIs w ok v T) (hf : T.length ≤ 3518437208832) (hs : sorted T) :
    ∃ u, HdIs w ok u (getT T s) ∧ ∀ W, Below w.heap.size w W → Calls Tryz.prog 173 #[v, strV s] W fun e w' => e = .returned u ∧ Below W.heap.size W w' := by
  have hb := fun W (hW : Below w.heap.size w W) => at_any T v s ok W (h.stayB hW) hf hs
  have hg := getT_hit hs s
  have hle := posT_le T s
  obtain ⟨A, c, rfl, hc⟩ := h.form
  clear hs hc
  by_cases hp : posT T s < T.length
  · obtain ⟨b, o, u, rfl, _, hbl, hU, c0, c1⟩ := h.br (posT T s) hp
    rw [List.getElem?_eq_getElem hp] at hg
    have hh : hitT T s = decide (T[posT T s].name = s) := by unfold hitT; rw [List.getElem?_eq_getElem hp]
    by_cases he : T[posT T s].name = s
    · rw [decide_eq_true he] at hh
      have hg' : Hid (getT T s = T[posT T s].heads) := Lib.hid (by rw [hg]; simp [he])
      rw [← hg'.out] at hU
      rw [hh] at hb
      obtain ⟨p, hpp⟩ : ∃ p, p = posT T s := ⟨_, rfl⟩
      rw [← hpp] at hb hp c1
      obtain ⟨UA, uc, rfl, huc, _⟩ := id hU
      refine ⟨_, hU, fun W hW => ?_⟩
      replace hU := Lib.hid hU
      replace hb := Lib.hid (hb W hW)
      have c3 : W.cell? ⟨b, o + p * 2 + 1, none⟩ = some (.slice UA (getT T s).length uc) := by rw [hW.cell (p := ⟨b, _, none⟩) hbl]; exact c1
      have hbW : b < W.heap.size := Nat.lt_of_lt_of_le hbl hW.size
      have i1 : (0 : Int) ≤ (p : Int) := by omega
      have i2 : (p : Int) < (T.length : Int) := by omega
      clear hg hh he c0 h hle hpp hg' c1 hW
      unfold strV at hb ⊢
      go_enter Tryz.func173, Tryz.ntmps173
      go_wp2_with fail
      refine hb.out.mono ?_
      rintro e w' ⟨rfl, hb2⟩
      have c2 : w'.cell? ⟨b, o + p * 2 + 1, none⟩ = some (.slice UA (getT T s).length uc) := by rw [hb2.cell (p := ⟨b, _, none⟩) hbW]; exact c3
      replace hb2 := Lib.hid hb2
      clear c3
      go_wp2
      go_ret
      exact ⟨rfl, hb2.out⟩
    · rw [decide_eq_false he] at hh
      have hg' : getT T s = [] := by rw [hg]; simp [he]
      rw [hh] at hb
      refine ⟨.slice none 0 0, by rw [hg']; exact HdIs.nil, fun W hW => ?_⟩
      replace hb := Lib.hid (hb W hW)
      clear hg hh he c0 c1 h hle hU hg' hW
      unfold strV at hb ⊢
      go_enter Tryz.func173, Tryz.ntmps173
      go_wp2_with fail
      refine hb.out.mono ?_
      rintro e w' ⟨rfl, hb2⟩
      replace hb2 := Lib.hid hb2
      go_wp2
      go_ret
      exact ⟨rfl, hb2.out⟩
  · have hn : T[posT T s]? = none := List.getElem?_eq_none (by omega)
    have hh : hitT T s = false := by unfold hitT; rw [hn]
    rw [hn] at hg
    rw [hh] at hb
    refine ⟨.slice none 0 0, by rw [hg]; exact HdIs.nil, fun W hW => ?_⟩
    replace hb := Lib.hid (hb W hW)
    clear hh h hle hn hg hW
    unfold strV at hb ⊢
    go_enter Tryz.func173, Tryz.ntmps173
    go_wp2_with fail
    refine hb.out.mono ?_
    rintro e w' ⟨rfl, hb2⟩
    replace hb2 := Lib.hid hb2
    go_wp2
    go_ret
    exact ⟨rfl, hb2.out⟩
end Go.Proofs.YtamdhaoglapnnaaGreatDoor
end
end

section
/- Joined: RfL, RfK. -/
section
/- One cell is read, whatever the world of a class. -/
namespace Go.Proofs.YtamdhaoglapnnaaGreatDoor
open Go.RowKit
section
variable {P : Program}
theorem run_loadVar_cell (w : World) (ty : TypeId) (g o : Nat) (v : Value) (hagg : (isAgg ty).run P w = .ok false w) (hc : w.cell? ⟨g, o, none⟩ = some v) : (loadVar ty ⟨g, o, none⟩).run P w = .ok v w := by
  simp [loadVar, hagg, load, Sem.run, hc]
theorem wpQuiet_cell {ops : Array Oper} {rest : List Oper} {op : Oper} {a : Act} {C : World → Prop} {Q : Act → Prop} (ty : TypeId) (x : Operand) (ho : op.op = .load ty x) (hw : Region.wanted op (yielded ops a.tmps) = true)
    (g o : Nat) (hx : a.eval x = .pointer (some ⟨g, o, none⟩)) (v : Value) (hc : ∀ w, C w → w.cell? ⟨g, o, none⟩ = some v) (hagg : ∀ w, (isAgg ty).run P w = .ok false w)
    (h : wpQuiet P ops C Q rest (a.put op.dst v)) : wpQuiet P ops C Q (op :: rest) a := by
  refine wpQuiet_run_g _ ho hw _ (fun w hw => ?_) h
  unfold execOp
  simp only [ho, hx, Instr.loadAt, Instr.sureAddr, Sem.run_bind, Sem.run_pure, Result.andThen_ok, run_loadVar_cell w ty g o v (hagg w) (hc w hw)]
end
theorem aggStr (w : World) : (isAgg 9).run Tryz.prog w = .ok false w := by kernel_rfl
theorem aggHd (w : World) : (isAgg 108).run Tryz.prog w = .ok false w := by kernel_rfl
theorem aggTab (w : World) : (isAgg 110).run Tryz.prog w = .ok false w := by kernel_rfl
theorem aggCh (w : World) : (isAgg 181).run Tryz.prog w = .ok false w := by kernel_rfl
end Go.Proofs.YtamdhaoglapnnaaGreatDoor
end

section
/- The walks of ContainsFunc at changes, and of wrong. -/
namespace Go.Proofs.YtamdhaoglapnnaaGreatDoor
open Go.RowKit

theorem beq_dec (a b : Str) : (a == b) = decide (a = b) := by
  rw [Bool.eq_iff_iff, beq_iff_eq, decide_eq_true_iff]
attribute [local go_sem] toL
set_option maxRecDepth 100000 in
set_option maxHeartbeats 1000000 in
theorem wc_any (n m : Str) (x y : Value) (g : Nat) (w : World) (hc : w.cell? ⟨g, 0, none⟩ = some (strV m)) :
    Calls Tryz.prog 304 #[.agg #[strV n, x, y], .pointer (some ⟨g, 0, none⟩)] w fun e w' => e = .returned (.bool (decide (n = m))) ∧ Below w.heap.size w w' := by
  have hlt : g < w.heap.size := World.block_lt_of_cell? _ _ hc
  have hb : Below w.heap.size w (w.alloc (.cells #[strV n, x, y] 180)) := (Below.refl _ _).alloc (Nat.le_refl _) _
  have hB : Blk (w.alloc (.cells #[strV n, x, y] 180)) w.heap.size 180 [strV n, x, y] := Blk.new_at (cs := [strV n, x, y]) rfl
  have c0 : (w.alloc (.cells #[strV n, x, y] 180)).cell? ⟨w.heap.size, 0, none⟩ = some (.string ⟨n.toArray⟩) := by rw [hB.cell]; rfl
  have c1 : (w.alloc (.cells #[strV n, x, y] 180)).cell? ⟨g, 0, none⟩ = some (.string ⟨m.toArray⟩) := by rw [hb.cell (p := ⟨g, 0, none⟩) hlt]; exact hc
  clear hB hc
  unfold strV at c0 c1 hb ⊢
  replace hb := Lib.hid hb
  go_enter Tryz.func304, Tryz.ntmps304
  go_wp2
  go_ret
  exact ⟨ret_b (beq_dec n m), hb.out⟩
/-- The index of the first change of a name, or a negative number. -/
def IxTo (w : World) (C : List Chg) (m : Str) (e : Ending) (w' : World) : Prop := ∃ z : Int, e = .returned (.int .i64 z) ∧ decide (0 ≤ z) = C.any (fun x => x.name == m) ∧ Below w.heap.size w w'
set_option maxRecDepth 100000 in
set_option maxHeartbeats 4000000 in
theorem ixf_any (C : List Chg) (v : Value) (m : Str) (g : Nat) (ok : Nat → Prop) (w : World) (h : ChsIs w ok v C) (hl : C.length ≤ 2199023255552) (hc : w.cell? ⟨g, 0, none⟩ = some (strV m)) :
    Calls Tryz.prog 340 #[v, .func (.func 304) #[] #[.pointer (some ⟨g, 0, none⟩)]] w (IxTo w C m) := by
  obtain ⟨A, c, rfl, hcc⟩ := h.form
  have hC := Lib.hid h.ltB
  have hgl : g < w.heap.size := World.block_lt_of_cell? _ _ hc
  have hcall := Lib.hid (fun n x y W => wc_any n m x y g W)
  replace hc := Lib.hid hc
  clear h hcc
  go_enter Tryz.func340, Tryz.ntmps340
  go_wp2
  go_loopw [8] (fun i wr => ∃ k : Nat, k ≤ C.length ∧ i = .int .i64 k ∧ Hid ((C.take k).any (fun x => x.name == m) = false) ∧ Below w.heap.size w wr) (fun i _ => C.length - (intOf i).toNat)
  case atStart => exact ⟨0, Nat.zero_le _, rfl, Lib.hid rfl, Below.refl _ _⟩
  case round =>
    obtain ⟨k, hk, rfl, ha, hb⟩ := hrel
    by_cases hlt : k < C.length
    · obtain ⟨b, o, x, y, rfl, hbl, _, _, _, hcells⟩ := (hC.out.low hb).ch k hlt
      have hmc : wr.cell? ⟨g, 0, none⟩ = some (strV m) := by rw [hb.cell (p := ⟨g, 0, none⟩) hgl]; exact hc.out
      have hca := Lib.hid (hcall.out C[k].name x y wr hmc)
      have hyes : Hid (C[k].name = m → C.any (fun x => x.name == m) = true) := Lib.hid (fun e => by
        rw [List.any_eq_true]
        exact ⟨C[k], List.getElem_mem hlt, by simp [e]⟩)
      have hno : Hid (C[k].name ≠ m → (C.take (k + 1)).any (fun x => x.name == m) = false) := Lib.hid (fun e => by
        rw [take_at hlt, List.any_append, ha.out]
        simp [e])
      obtain ⟨n, hn⟩ : ∃ n, n = C[k].name := ⟨_, rfl⟩
      rw [← hn] at hcells hca hyes hno
      replace hcells := Lib.hid hcells
      clear hn hmc
      obtain ⟨t, ht⟩ : ∃ t, t = decide (n = m) := ⟨_, rfl⟩
      rw [← ht] at hca
      replace ht := Lib.hid ht
      have i1 : (0 : Int) ≤ (k : Int) := by omega
      have i2 : (k : Int) < (C.length : Int) := by omega
      go_wp2_with (first
        | (refine wpList_load_at 180 (.tmp 14) rfl rfl b (o + k * 3) rfl [strV n, x, y] hcells.out _ Tryz.underlying180 rfl chSz ?_; go_frame))
      refine hca.out.mono ?_
      rintro e w2 ⟨rfl, hb2⟩
      have hb3 := hb.trans (hb2.mono hb.size)
      clear hb2
      cases t with
      | true =>
        have he : Hid (C.any (fun x => x.name == m) = true) := Lib.hid (hyes.out (by simpa using ht.out.symm))
        go_wp2
        go_ret
        exact ⟨k, rfl, by rw [he.out]; simp, hb3⟩
      | false =>
        have he : Hid ((C.take (k + 1)).any (fun x => x.name == m) = false) := Lib.hid (hno.out (by simpa using ht.out.symm))
        go_wp2
        go_roundw
        case rel => exact ⟨k + 1, by omega, by go_num, he, hb3⟩
        case measure => simp [intOf]; omega
    · obtain rfl : k = C.length := by omega
      have he : Hid (C.any (fun x => x.name == m) = false) := Lib.hid (by have := ha.out; rwa [List.take_length] at this)
      go_wp2
      go_ret
      exact ⟨-1, rfl, by rw [he.out]; rfl, hb⟩
set_option maxRecDepth 100000 in
set_option maxHeartbeats 1000000 in
theorem cf_any (C : List Chg) (v : Value) (m : Str) (g : Nat) (ok : Nat → Prop) (w : World) (h : ChsIs w ok v C) (hl : C.length ≤ 2199023255552) (hc : w.cell? ⟨g, 0, none⟩ = some (strV m)) :
    Calls Tryz.prog 303 #[v, .func (.func 304) #[] #[.pointer (some ⟨g, 0, none⟩)]] w fun e w' => e = .returned (.bool (C.any (fun x => x.name == m))) ∧ Below w.heap.size w w' := by
  have hx := Lib.hid (ixf_any C v m g ok w h hl hc)
  obtain ⟨A, c, rfl, hcc⟩ := h.form
  clear h hc hcc
  go_enter Tryz.func303, Tryz.ntmps303
  go_wp2_with fail
  refine hx.out.mono ?_
  rintro e w2 ⟨z, rfl, hz, hb2⟩
  replace hb2 := Lib.hid hb2
  obtain ⟨t, ht⟩ : ∃ t, t = C.any (fun x => x.name == m) := ⟨_, rfl⟩
  rw [← ht] at hz
  replace ht := Lib.hid ht
  go_wp2
  go_ret
  exact ⟨ret_b ht.out, hb2.out⟩
theorem getT_fit {T : Tab} (hf : TFit T) (n : Str) : HFit (getT T n) := by
  unfold getT
  split
  · rename_i b hb
    exact (hf.ok b (List.mem_of_find?_eq_some hb)).heads
  · exact ⟨Nat.zero_le _, fun d hd => by simp at hd⟩
set_option maxRecDepth 100000 in
set_option maxHeartbeats 4000000 in
theorem wrong_any (T : Tab) (C : List Chg) (c : Chg) (v u x y : Value) (ok ok' ok1 : Nat → Prop) (w : World) (h : TabIs w ok v T) (hf : TFit T) (hs : sorted T) (h' : ChsIs w ok' u C) (hl : C.length ≤ 2199023255552)
    (hx : HdIs w ok1 x c.old) (hy : HdIs w ok1 y c.new) (hc : CFit1 c) :
    Calls Tryz.prog 251 #[v, u, .agg #[strV c.name, x, y]] w fun e w' => e = .returned (.int .i64 (wrongE T C c)) ∧ Below w.heap.size w w' := by
  obtain ⟨A, tc, rfl, htc⟩ := h.form
  obtain ⟨A', cc, rfl, hcc⟩ := h'.form
  obtain ⟨XA, xc, rfl, hxc, _⟩ := id hx
  obtain ⟨YA, yc, rfl, hyc, _⟩ := id hy
  have hnl : c.name.length ≤ 140737488355328 := hc.name
  have hol : c.old.length ≤ 4398046511104 := hc.old.len
  have hwl : c.new.length ≤ 4398046511104 := hc.new.len
  have hlT := hf.len
  have hB : Blk (w.alloc (.cells #[strV c.name, .slice XA c.old.length xc, .slice YA c.new.length yc] 180)) w.heap.size 180 [strV c.name, .slice XA c.old.length xc, .slice YA c.new.length yc] := Blk.new_at (cs := [strV c.name, .slice XA c.old.length xc, .slice YA c.new.length yc]) rfl
  have hb1 : Below w.heap.size w (w.alloc (.cells #[strV c.name, .slice XA c.old.length xc, .slice YA c.new.length yc] 180)) := (Below.refl _ _).alloc (Nat.le_refl _) _
  obtain ⟨W1, hW1⟩ : ∃ W1, W1 = w.alloc (.cells #[strV c.name, .slice XA c.old.length xc, .slice YA c.new.length yc] 180) := ⟨_, rfl⟩
  rw [← hW1] at hB hb1
  have hT1 := h.stayB hb1
  have hC1 := h'.stayB hb1
  have hX1 := hx.stayB hb1
  have hY1 := hy.stayB hb1
  have hnm := Lib.hid (nm_any c.name W1 hnl)
  have hcf := Lib.hid (cf_any C _ c.name w.heap.size ok' W1 hC1 hl (by rw [hB.cell]; rfl))
  have c0 : W1.cell? ⟨w.heap.size, 0, none⟩ = some (.string ⟨c.name.toArray⟩) := by rw [hB.cell]; rfl
  have hWE : wrongE T C c = if nmOk c.name then (if C.any (fun x => x.name == c.name) then 6 else if headsE c.new = 0 then (if getT T c.name = c.old then 0 else 12) else headsE c.new) else 11 := rfl
  obtain ⟨n, hn⟩ : ∃ n, n = c.name := ⟨_, rfl⟩
  obtain ⟨a, ha⟩ : ∃ a, a = nmOk c.name := ⟨_, rfl⟩
  obtain ⟨b, hb⟩ : ∃ b, b = C.any (fun x => x.name == c.name) := ⟨_, rfl⟩
  rw [← hb] at hcf hWE
  rw [← ha] at hnm hWE
  have hor := hc.old
  have hnw := hc.new
  obtain ⟨old, ho⟩ : ∃ old, old = c.old := ⟨_, rfl⟩
  obtain ⟨new, hn2⟩ : ∃ new, new = c.new := ⟨_, rfl⟩
  obtain ⟨res, hres⟩ : ∃ res, res = wrongE T C c := ⟨_, rfl⟩
  rw [← hres] at hWE ⊢
  rw [← hn, ← ho, ← hn2] at hWE
  rw [← hn] at hnm c0 hnl
  rw [← ho] at hX1 hor hol
  rw [← hn2] at hY1 hnw hwl
  rw [← hn, ← ho, ← hn2] at hB hW1
  rw [← hn, ← ho, ← hn2]
  clear hres hb ha hn ho hn2 hc h h' hx hy htc hcc
  replace hWE := Lib.hid hWE
  replace hW1 := Lib.hid hW1
  have hf' := Lib.hid hf
  replace hT1 := Lib.hid hT1
  replace hX1 := Lib.hid hX1
  replace hY1 := Lib.hid hY1
  replace hB := Lib.hid hB
  replace hs := Lib.hid hs
  clear hC1
  unfold strV at hW1 hnm ⊢
  go_enter Tryz.func251, Tryz.ntmps251
  go_wp2_with fail
  rw [← hW1.out]
  refine hnm.out.mono ?_
  rintro e w2 ⟨rfl, rfl⟩
  cases a with
  | false =>
    have hfin : Hid (res = 11) := Lib.hid (by rw [hWE.out]; rfl)
    go_wp2
    go_ret
    exact ⟨ret_i hfin.out.symm, hb1⟩
  | true =>
    replace hWE : Hid (res = if b then 6 else if headsE new = 0 then (if getT T n = old then 0 else 12) else headsE new) := Lib.hid (by rw [hWE.out]; rfl)
    go_wp2_with fail
    refine hcf.out.mono ?_
    rintro e w2 ⟨rfl, hb2⟩
    have hbW2 := Lib.hid (hb1.trans (hb2.mono hb1.size))
    cases b with
    | true =>
      have hfin : Hid (res = 6) := Lib.hid (by rw [hWE.out]; rfl)
      clear hb2
      go_wp2
      go_ret
      exact ⟨ret_i hfin.out.symm, hbW2.out⟩
    | false =>
      replace hWE : Hid (res = if headsE new = 0 then (if getT T n = old then 0 else 12) else headsE new) := Lib.hid (by rw [hWE.out]; rfl)
      have hB2 := hB.out.below hb2 hB.out.lt
      have hT2 := Lib.hid (hT1.out.stayB hb2)
      have hX2 := Lib.hid (hX1.out.stayB hb2)
      have hY2 := Lib.hid (hY1.out.stayB hb2)
      have d2 : w2.cell? ⟨w.heap.size, 2, none⟩ = some (.slice YA new.length yc) := by rw [hB2.cell]; rfl
      replace hB2 := Lib.hid hB2
      have hcall := Lib.hid (heads_any new _ ok1 w2 hY2.out hnw)
      obtain ⟨z, hz⟩ : ∃ z, z = headsE new := ⟨_, rfl⟩
      rw [← hz] at hWE hcall
      clear hz hb2 c0 hnm hcf hB hT1 hX1 hY1 hW1
      go_wp2_with fail
      refine hcall.out.mono ?_
      rintro e w3 ⟨rfl, hb3⟩
      have hbW3 := Lib.hid (hbW2.out.trans (hb3.mono hbW2.out.size))
      by_cases hz0 : z = 0
      · subst hz0
        replace hWE : Hid (res = if getT T n = old then 0 else 12) := Lib.hid (hWE.out.trans (if_pos rfl))
        have hB3 := hB2.out.below hb3 hB2.out.lt
        have hT3 := hT2.out.stayB hb3
        have hX3 := hX2.out.stayB hb3
        obtain ⟨su, hsu, hst⟩ := stands_any T _ n ok w3 hT3 hlT hs.out
        have d0 : ∀ s : Over w3, s.1.cell? ⟨w.heap.size, 0, none⟩ = some (.string ⟨n.toArray⟩) := fun s => by rw [(blk_over hB3 s).cell]; rfl
        have d1 : ∀ s : Over w3, s.1.cell? ⟨w.heap.size, 1, none⟩ = some (.slice XA old.length xc) := fun s => by rw [(blk_over hB3 s).cell]; rfl
        have heq := Lib.hid (fun s : Over w3 => equal_any (getT T n) old su _ ok ok1 s.1 (hsu.stayB s.2) (hX3.stayB s.2) ⟨by
          have := getT_fit hf'.out n
          exact this.len, (getT_fit hf'.out n).ok⟩ hor)
        have hst' := Lib.hid (fun s : Over w3 => hst s.1 s.2)
        obtain ⟨t, ht⟩ : ∃ t, t = decide (getT T n = old) := ⟨_, rfl⟩
        rw [← ht] at heq
        have hfin : Hid (res = if t then 0 else 12) := Lib.hid (by rw [hWE.out, ht]; by_cases he : getT T n = old <;> simp [he])
        replace d0 := Lib.hid d0
        replace d1 := Lib.hid d1
        obtain ⟨SA, sc, rfl, _, _⟩ := id hsu
        clear ht hWE hst hsu hb3 hcall d2 hT3 hX3 hB3 hT2 hX2 hY2 hB2
        haveI := over_nonempty w3
        go_wp2
        refine quiet_over (by kernel_rfl) (by kernel_rfl) ?_
        repeat (first
          | (refine wpQuiet_cell 9 (.tmp 24) rfl rfl w.heap.size 0 rfl (.string ⟨n.toArray⟩) (fun w hw => ?_) aggStr ?_
             · obtain ⟨s, rfl⟩ := hw
               exact d0.out s
             go_frame)
          | (refine wpQuiet_cell 108 (.tmp 27) rfl rfl w.heap.size 1 rfl (.slice XA old.length xc) (fun w hw => ?_) aggHd ?_
             · obtain ⟨s, rfl⟩ := hw
               exact d1.out s
             go_frame)
          | go_big_quiet_step ((first
              | (go_at_call 173; exact calls_over _ (hst'.out _))
              | (go_at_call 305; exact calls_over _ (heq.out _)))))
        refine wpQuiet_nil ?_
        rintro _ ⟨s, rfl⟩
        have hb4 := hbW3.out.trans (s.2.mono hbW3.out.size)
        obtain ⟨w4, hw4⟩ := s
        dsimp only at hb4 ⊢
        clear this hw4 hst' heq d0 d1
        cases t with
        | true =>
          replace hfin : Hid (res = 0) := Lib.hid (by rw [hfin.out]; rfl)
          go_wp2
          go_ret
          exact ⟨ret_i hfin.out.symm, hb4⟩
        | false =>
          replace hfin : Hid (res = 12) := Lib.hid (by rw [hfin.out]; rfl)
          go_wp2
          go_ret
          exact ⟨ret_i hfin.out.symm, hb4⟩
      · have g1 : (z != 0) = true := by simpa using hz0
        have hfin : Hid (res = z) := Lib.hid (by rw [hWE.out, if_neg hz0])
        clear hb3
        go_wp2
        go_ret
        exact ⟨ret_i hfin.out.symm, hbW3.out⟩
end Go.Proofs.YtamdhaoglapnnaaGreatDoor
end
end

section
/- Joined: RfQ, RfS. -/
section
/- The walks of slices.Clone at digests, and of refs.own. -/
namespace Go.Proofs.YtamdhaoglapnnaaGreatDoor
open Go.RowKit

/-- A block of digests, from base on. -/
def DgAt (w : World) (base : Nat) (b : Nat) : Prop := base ≤ b ∧ ∃ cs, Blk w b 115 cs
theorem digInfo : InfoOf Tryz.prog 115 (.agg zero32.toArray) 32 32 := ⟨by kernel_rfl, rfl, by omega⟩
theorem brInfo : InfoOf Tryz.prog 138 (.agg zeroBr.toArray) 2 40 := ⟨by kernel_rfl, rfl, by omega⟩
theorem hd_of_own {w : World} {base : Nat} {v : Value} {l : List Str} (h : w.ownsRow base 115 32 v l.length (hCells l)) : HdIs w (DgAt w base) v l := by
  obtain ⟨h1, h2⟩ := h
  rcases h2 with ⟨rfl, h0⟩ | ⟨g, cap, cur, rfl, hb, hg, hc1, hc2, hc3, ht⟩
  · have : l = [] := List.eq_nil_of_length_eq_zero h0
    subst this
    exact HdIs.nil
  · have hB : Blk w g 115 cur.toList := by unfold Blk; simpa using hg
    refine ⟨_, cap, rfl, hc1, Rd.of_blk (r := cur.toList.drop (l.length * 32)) hB (by rw [List.drop_zero, ← ht, List.take_append_drop]) ⟨hb, _, hB⟩⟩
/-- What Clone gives. -/
def CloneTo (w : World) (l : List Str) (e : Ending) (w' : World) : Prop := ∃ u, e = .returned u ∧ HdIs w' (DgAt w' w.heap.size) u l ∧ Below w.heap.size w w'
theorem empty_row (w : World) (T : TypeId) (s : Nat) : (w.alloc (.cells #[] T)).ownsRow w.heap.size T s (.slice (some ⟨w.heap.size, 0, none⟩) 0 0) 0 [] := by
  refine ⟨by simp, .inr ⟨w.heap.size, 0, #[], rfl, Nat.le_refl _, heap_alloc_new w _, Nat.le_refl _, Nat.zero_le _, by simp, by simp⟩⟩
set_option maxRecDepth 100000 in
set_option maxHeartbeats 2000000 in
theorem clone_any (l : List Str) (v : Value) (ok : Nat → Prop) (w : World) (h : HdIs w ok v l) (hf : HFit l) :
    Calls Tryz.prog 168 #[v] w (CloneTo w l) := by
  obtain ⟨A, c, rfl, hc, hr⟩ := h
  have hl := hf.len
  have hlen := Lib.hid (hCells_len hf.ok)
  have hone := Lib.hid (hCells_one l)
  have hq := fun w => Lib.run_eql_slice_nil (P := Tryz.prog) w 108 115 A l.length c 0 0 Tryz.underlying108
  cases A with
  | none =>
    have h0 : Hid (l = []) := Lib.hid (by
      cases l with
      | nil => rfl
      | cons d r =>
        obtain ⟨ad, e, _⟩ := hr (by rw [hlen.out, List.length_cons]; omega)
        cases e)
    clear hr hf
    go_enter Tryz.func168, Tryz.ntmps168
    go_wp2
    go_ret
    exact ⟨_, rfl, by rw [h0.out]; exact HdIs.nil, Below.refl _ _⟩
  | some ad =>
    have hrd : Hid (Rd (w.alloc (.cells #[] 115)) (fun b => b < w.heap.size) (some ad) (hCells l)) := Lib.hid (hr.stay (fun b _ hlt => Below.heap_alloc _ _ _ hlt) (fun b _ hlt => hlt))
    have hown := Lib.hid (empty_row w 115 32)
    have hb0 : Hid (Below w.heap.size w (w.alloc (.cells #[] 115))) := Lib.hid ((Below.refl _ _).alloc (Nat.le_refl _) _)
    clear hr hf
    go_enter Tryz.func168, Tryz.ntmps168
    go_wp2_with (at_builtin; refine wpList_append_rd _ rfl (.tmp 5) (.tmp 6) 108 rfl w.heap.size 115 (.agg zero32.toArray) 32 32 Tryz.underlying108 digInfo (.slice (some ⟨w.heap.size, 0, none⟩) 0 0) 0 [] rfl hown.out (fun b => b < w.heap.size) (some ad) l.length c (hCells l) rfl hlen.out hrd.out hone.out (by unfold maxLen; omega) (by omega) (by simp) ?_; intro v' w2 hrow2 hg2 hv2; replace hrow2 := Lib.hid hrow2; replace hg2 := Lib.hid hg2; obtain ⟨VA, vc, rfl, _, _⟩ := own_form hrow2.out; go_frame)
    go_ret
    refine ⟨_, rfl, hd_of_own (by have := hrow2.out; simpa using this), ?_⟩
    exact hb0.out.trans (own_below hown.out hg2.out (by simp))
end Go.Proofs.YtamdhaoglapnnaaGreatDoor
end

section
/- A table in memory of its own; the walk of refs.own. -/
namespace Go.Proofs.YtamdhaoglapnnaaGreatDoor
open Go.RowKit

/-- append, at a step of a region that draws its order. -/
theorem step_append_rd {P : Program} (w : World) {ops : Array Oper} {o : Oper} {a : Act} {K : Act → World → Prop} {Q : Exit → Act → World → Prop} {E : Prop} (hgd : o.guard = none) (s x : Operand) (t : TypeId)
    (ho : o.op = .call { callee := .builtin .append, args := #[s, x], argTypes := #[t, t] })
    (base : Nat) (e : TypeId) (z : Value) (size bytes : Nat) (ht : P.underlying t = some (.slice e)) (hI : InfoOf P e z size bytes)
    (v : Value) (n : Nat) (xs : List Value) (hs : a.eval s = v) (hown : w.ownsRow base e size v n xs)
    (ok : Nat → Prop) (A : Option Addr) (m c : Nat) (news : List Value) (hx : a.eval x = .slice A m c) (hm : news.length = m * size) (hr : Rd w ok A news) (h1 : ∀ u ∈ news, u.oneCell' = true)
    (h63 : n + m ≤ maxLen) (hbytes : (n + m) * bytes ≤ 140737488355328) (hbase : base ≤ w.heap.size)
    (h : ∀ v' w', w'.ownsRow base e size v' (n + m) (xs ++ news) → w.grownBy w' v.ownBlock → (v'.ownBlock = v.ownBlock ∨ v'.ownBlock = some w.heap.size) → K (a.put o.dst v') w') :
    if Region.wanted o (yielded ops a.tmps) = true then Oper.wp P o a w K Q else E := by
  have hw : Region.wanted o (yielded ops a.tmps) = true := by simp [Region.wanted, hgd]
  rw [if_pos hw]
  exact wp_append_rd w s x t ho base e z size bytes ht hI v n xs hs hown ok A m c news hx hm hr h1 h63 hbytes hbase h
section
variable {w w' : World} {base base' : Nat} {u : Value} {l : List Str}
theorem HdIs.keep (h : HdIs w (DgAt w base) u l) (hk : ∀ b cs, base ≤ b → Blk w b 115 cs → Blk w' b 115 cs) : HdIs w' (DgAt w' base) u l :=
  h.stay (fun b hb _ => by
    obtain ⟨h1, cs, h2⟩ := hb
    have h3 := hk b cs h1 h2
    unfold Blk at h2 h3
    rw [h2, h3]) (fun b hb _ => by
    obtain ⟨h1, cs, h2⟩ := hb
    exact ⟨h1, cs, hk b cs h1 h2⟩)
theorem HdIs.keepB (h : HdIs w (DgAt w base) u l) (hb : Below w.heap.size w w') : HdIs w' (DgAt w' base) u l := h.keep (fun _ _ _ hB => hB.below hb hB.lt)
theorem HdIs.lower (h : HdIs w (DgAt w base) u l) (hb : base' ≤ base) : HdIs w (DgAt w base') u l := h.stay (fun _ _ _ => rfl) (fun _ ⟨h1, cs, h2⟩ _ => ⟨Nat.le_trans hb h1, cs, h2⟩)
theorem HdIs.keepRow {v : Value} {n : Nat} {xs : List Value} {T : TypeId} {s : Nat} (h : HdIs w (DgAt w base) u l) (ho : w.ownsRow base' T s v n xs) (hT : T ≠ 115) (hg : w.grownBy w' v.ownBlock) : HdIs w' (DgAt w' base) u l :=
  h.keep (fun b cs _ hB => hB.grown hg (fun e => by
    rcases ho.2 with ⟨rfl, _⟩ | ⟨g', cap, cur, rfl, _, hg', _⟩
    · cases e
    · have e' : b = g' := by simpa [Value.ownBlock] using e
      subst e'
      unfold Blk at hB
      rw [hg'] at hB
      injection hB with hB
      injection hB with _ ht
      exact hT ht))
end
/-- A table that the call has made: its row, and its heads, lie from base on. -/
def OwnTab (w : World) (base : Nat) (v : Value) (T : Tab) : Prop := ∃ vs, vs.length = T.length ∧ w.ownsRow base 138 2 v T.length (tCells T vs) ∧ ∀ (k : Nat) b u, T[k]? = some b → vs[k]? = some u → HdIs w (DgAt w base) u b.heads
section
variable {w w' : World} {base base' : Nat} {v : Value} {T : Tab}
theorem OwnTab.nil : OwnTab w base (.slice none 0 0) [] := ⟨[], rfl, ⟨rfl, .inl ⟨rfl, rfl⟩⟩, fun k b u h _ => by simp at h⟩
theorem OwnTab.form (h : OwnTab w base v T) : ∃ A c, v = .slice A T.length c ∧ T.length ≤ c := by
  obtain ⟨vs, _, ho, _⟩ := h
  obtain ⟨A, c, e, hc, _⟩ := own_form ho
  exact ⟨A, c, e, hc⟩
theorem OwnTab.keepB (h : OwnTab w base v T) (hb : Below w.heap.size w w') : OwnTab w' base v T := by
  obtain ⟨vs, hl, ho, hh⟩ := h
  exact ⟨vs, hl, own_touch (L := []) ho (Touch.ofBelow hb) (by simp), fun k b u h1 h2 => (hh k b u h1 h2).keepB hb⟩
theorem OwnTab.lower (h : OwnTab w base v T) (hb : base' ≤ base) : OwnTab w base' v T := by
  obtain ⟨vs, hl, ⟨e1, e2⟩, hh⟩ := h
  refine ⟨vs, hl, ⟨e1, ?_⟩, fun k b u h1 h2 => (hh k b u h1 h2).lower hb⟩
  rcases e2 with e2 | ⟨gx, cap, cur, e3, e4, e5⟩
  · exact .inl e2
  · exact .inr ⟨gx, cap, cur, e3, by omega, e5⟩
/-- A block of a table of one's own. -/
def TbAt (w : World) (base b : Nat) : Prop := base ≤ b ∧ ((∃ cs, Blk w b 115 cs) ∨ ∃ cs, Blk w b 138 cs)
theorem OwnTab.tab (h : OwnTab w base v T) : TabIs w (TbAt w base) v T := by
  obtain ⟨vs, hl, ho, hh⟩ := h
  have hh' : ∀ (k : Nat) b u, T[k]? = some b → vs[k]? = some u → HdIs w (TbAt w base) u b.heads := fun k b u h1 h2 => (hh k b u h1 h2).stay (fun _ _ _ => rfl) (fun b hb _ => ⟨hb.1, .inl hb.2⟩)
  rcases ho.2 with ⟨rfl, h0⟩ | ⟨g, cap, cur, rfl, hb, hg, hc1, hc2, hc3, ht⟩
  · have : T = [] := List.eq_nil_of_length_eq_zero h0
    subst this
    exact TabIs.nil
  · have hB : Blk w g 138 cur.toList := by unfold Blk; simpa using hg
    exact ⟨_, cap, vs, hl, rfl, hc1, Rd.of_blk (r := cur.toList.drop (T.length * 2)) hB (by rw [List.drop_zero, ← ht, List.take_append_drop]) ⟨hb, .inr ⟨_, hB⟩⟩, hh'⟩
end
theorem tCells_snoc (T : Tab) (vs : List Value) (hl : vs.length = T.length) (b : Br) (u : Value) : tCells (T ++ [b]) (vs ++ [u]) = tCells T vs ++ [strV b.name, u] := tCells_app T vs hl [b] [u]
/-- One branch more, behind the last. -/
theorem OwnTab.snoc {w' : World} {base : Nat} {v' : Value} {T : Tab} {vs : List Value} {b : Br} {u : Value} (hl : vs.length = T.length) (hh : ∀ (k : Nat) b u, T[k]? = some b → vs[k]? = some u → HdIs w' (DgAt w' base) u b.heads)
    (hu : HdIs w' (DgAt w' base) u b.heads) (hrow : w'.ownsRow base 138 2 v' (T.length + 1) (tCells T vs ++ [strV b.name, u])) : OwnTab w' base v' (T ++ [b]) := by
  refine ⟨vs ++ [u], by simp [hl], by rw [tCells_snoc T vs hl]; simpa using hrow, fun k b' u' h1 h2 => ?_⟩
  by_cases hk : k < T.length
  · rw [List.getElem?_append_left hk] at h1
    rw [List.getElem?_append_left (by omega)] at h2
    exact hh k b' u' h1 h2
  · rw [List.getElem?_append_right (by omega)] at h1
    rw [List.getElem?_append_right (by omega)] at h2
    have hk' : k = T.length := by
      have := (List.getElem?_eq_some_iff.1 h1).1
      simp at this; omega
    subst hk'
    simp only [Nat.sub_self, List.getElem?_cons_zero, Option.some.injEq] at h1
    rw [hl] at h2
    simp only [Nat.sub_self, List.getElem?_cons_zero, Option.some.injEq] at h2
    subst h1; subst h2
    exact hu
def OwnTo (w : World) (T : Tab) (e : Ending) (w' : World) : Prop := ∃ v, e = .returned v ∧ OwnTab w' w.heap.size v T ∧ Below w.heap.size w w'
set_option maxRecDepth 100000 in
set_option maxHeartbeats 4000000 in
theorem own_any (T : Tab) (v : Value) (ok : Nat → Prop) (w : World) (h : TabIs w ok v T) (hf : TFit T) :
    Calls Tryz.prog 104 #[v] w (OwnTo w T) := by
  obtain ⟨A, c, rfl, hc⟩ := h.form
  have hT := Lib.hid h.ltB
  have hlen := hf.len
  have hok := Lib.hid hf.ok
  clear h hf hc
  go_enter Tryz.func104, Tryz.ntmps104
  go_wp2
  go_loopw [8, 3] (fun i v wr => ∃ k : Nat, k ≤ T.length ∧ i = .int .i64 k ∧ OwnTab wr w.heap.size v (T.take k) ∧ Below w.heap.size w wr) (fun i _ _ => T.length - (intOf i).toNat)
  case atStart => exact ⟨0, Nat.zero_le _, rfl, OwnTab.nil, Below.refl _ _⟩
  case round =>
    obtain ⟨k, hk, rfl, hO, hb⟩ := hrel
    by_cases hlt : k < T.length
    · obtain ⟨b, o, u, rfl, hbl, _, hU, c0, c1⟩ := (hT.out.low hb).br k hlt
      have hbf := hok.out T[k] (List.getElem_mem hlt)
      have htk : Hid (T.take (k + 1) = T.take k ++ [T[k]]) := Lib.hid (take_at hlt)
      have hkl : (T.take k).length = k := by rw [List.length_take]; omega
      obtain ⟨br, hbr⟩ : ∃ br, br = T[k] := ⟨_, rfl⟩
      rw [← hbr] at hU c0 hbf htk
      obtain ⟨P, hP⟩ : ∃ P, P = T.take k := ⟨_, rfl⟩
      rw [← hP] at hO htk hkl
      clear hbr hP
      have hhf := hbf.heads
      have hhl := hbf.heads.len
      have hnl := hbf.name
      obtain ⟨n, hs⟩ := br
      dsimp only at hU c0 hhf hhl hnl
      obtain ⟨UA, uc, rfl, huc, _⟩ := id hU
      have hcells := Lib.hid (two_cells c0 c1)
      obtain ⟨hX1, hbx1⟩ := boxed wr 138 zeroBr [strV n, .slice UA hs.length uc]
      obtain ⟨W1, hW1⟩ : ∃ W1, W1 = (wr.alloc (.cells zeroBr.toArray 138)).setRow wr.heap.size [strV n, .slice UA hs.length uc].toArray := ⟨_, rfl⟩
      rw [← hW1] at hX1 hbx1
      replace hW1 := Lib.hid hW1
      have hone : Hid (∀ v ∈ [strV n, Value.slice UA hs.length uc], v.oneCell' = true) := Lib.hid (by simp [strV, Value.oneCell'])
      have hU1 := hU.low (hbx1.mono hb.size)
      have hO1 := hO.keepB hbx1
      have hbW := hb.trans (hbx1.mono hb.size)
      have d0 : W1.cell? ⟨wr.heap.size, 0, none⟩ = some (.string ⟨n.toArray⟩) := by rw [hX1.cell]; rfl
      have d1 : W1.cell? ⟨wr.heap.size, 1, none⟩ = some (.slice UA hs.length uc) := by rw [hX1.cell]; rfl
      have hgl : wr.heap.size < W1.heap.size := hX1.lt
      have i1 : (0 : Int) ≤ (k : Int) := by omega
      have i2 : (k : Int) < (T.length : Int) := by omega
      obtain ⟨vs, hvl, hrow, hheads⟩ := hO1
      obtain ⟨FA, fc, rfl, _, _⟩ := own_form hrow
      have hne : ∀ b, (Value.slice FA P.length fc).ownBlock = some b → b < wr.heap.size := by
        obtain ⟨_, _, ho, _⟩ := hO
        exact fun b hb => (ho.lt b hb).2
      rw [hkl] at hne
      rw [hkl] at hrow ⊢
      replace hrow := Lib.hid hrow
      replace hheads := Lib.hid hheads
      replace hU1 := Lib.hid hU1
      replace hbW := Lib.hid hbW
      replace hkl := Lib.hid hkl
      replace hvl := Lib.hid hvl
      clear c0 c1 hU hO hb hbx1 hX1 hbf
      go_wp2_with (first
        | (refine wpList_load_at 138 (.tmp 10) rfl rfl b (o + k * 2) rfl [strV n, .slice UA hs.length uc] hcells.out _ Tryz.underlying138 rfl brSz ?_; go_frame)
        | (refine wpList_store_blk rfl 138 (.tmp 5) (.tmp 11) rfl wr.heap.size [strV n, .slice UA hs.length uc] rfl rfl 138 zeroBr (Blk.new_at rfl) rfl brSz hone.out ?_; rw [show (wr.alloc (Obj.cells #[Value.string ⟨#[]⟩, Value.slice none 0 0] 138)).setRow wr.heap.size [strV n, .slice UA hs.length uc].toArray = W1 from hW1.out.symm]; go_frame))
      have hO1 : Hid (∀ W, Below W1.heap.size W1 W → W.ownsRow w.heap.size 138 2 (.slice FA k fc) k (tCells P vs) ∧ (∀ (k : Nat) b u, P[k]? = some b → vs[k]? = some u → HdIs W (DgAt W w.heap.size) u b.heads) ∧ HdIs W (· < w.heap.size) (.slice UA hs.length uc) hs ∧ Below w.heap.size w W ∧ W.cell? ⟨wr.heap.size, 0, none⟩ = some (.string ⟨n.toArray⟩) ∧ W.cell? ⟨wr.heap.size, 1, none⟩ = some (.slice UA hs.length uc)) := Lib.hid (fun W hW =>
        ⟨own_touch (L := []) hrow.out (Touch.ofBelow hW) (by simp), fun k b u h1 h2 => (hheads.out k b u h1 h2).keepB hW, hU1.out.stayB hW, hbW.out.trans (hW.mono hbW.out.size), (by rw [hW.cell (p := ⟨wr.heap.size, 0, none⟩) hgl]; exact d0), (by rw [hW.cell (p := ⟨wr.heap.size, 1, none⟩) hgl]; exact d1)⟩)
      have hS4 : Hid (∀ W o W4, Below W1.heap.size W1 W → (W.alloc o).grownBy W4 (Value.slice FA k fc).ownBlock → W4.cell? ⟨wr.heap.size, 0, none⟩ = some (.string ⟨n.toArray⟩) ∧ W4.cell? ⟨wr.heap.size, 1, none⟩ = some (.slice UA hs.length uc)) := Lib.hid (fun W o W4 hW hg => by
        have hlt : wr.heap.size < W.heap.size := Nat.lt_of_lt_of_le hgl hW.size
        have hblk : W4.heap[wr.heap.size]? = W.heap[wr.heap.size]? := (hg.block _ (by simp; omega) (fun e => by have := hne _ e.symm; omega)).trans (Below.heap_alloc W o _ hlt)
        have e0 : W4.cell? ⟨wr.heap.size, 0, none⟩ = W.cell? ⟨wr.heap.size, 0, none⟩ := World.cell?_of_block hblk
        have e1 : W4.cell? ⟨wr.heap.size, 1, none⟩ = W.cell? ⟨wr.heap.size, 1, none⟩ := World.cell?_of_block hblk
        rw [e0, e1]
        exact (hO1.out W hW).2.2.2.2)
      clear hne
      have hsz1 := hbW.out.size
      have hbd : Below W1.heap.size W1 W1.drew := (Below.refl _ _).drew
      clear hW1
      go_region_held3 (fun w' => w'.cell? ⟨wr.heap.size, 0, none⟩ = some (.string ⟨n.toArray⟩) ∧ w'.cell? ⟨wr.heap.size, 1, none⟩ = some (.slice UA hs.length uc)) (first | exact hS4.out _ _ _ hb3.out hg4.out | exact (hO1.out _ hb3.out).2.2.2.2 | go_keep)
        (first
          | (go_at_call 168; (with_reducible refine (clone_any hs _ _ W1.drew (hO1.out _ hbd).2.2.1 hhf).mono ?_); rintro e W3 ⟨cu, rfl, hcu, hb3'⟩; have hb3 := Lib.hid (hbd.trans hb3'); clear hb3'; obtain ⟨CA, cc, rfl, hcc1, hcc2⟩ := id hcu; replace hcu := Lib.hid hcu)
          | (refine step_append_rd _ rfl (.tmp 12) (.tmp 19) 110 rfl w.heap.size 138 (.agg zeroBr.toArray) 2 40 Tryz.underlying110 brInfo (.slice FA k fc) k (tCells P vs) rfl ((hO1.out _ hb3.out).1.alloc _) (fun _ => True) (some ⟨W3.heap.size, 0, none⟩) 1 1 [.string ⟨n.toArray⟩, .slice CA hs.length cc] rfl rfl (Rd.of_blk (cs := [.string ⟨n.toArray⟩, .slice CA hs.length cc]) (r := []) (Blk.new_at rfl) rfl trivial) (by simp [Value.oneCell']) (by unfold maxLen; omega) (by omega) (by have := hb3.out.size; simp; omega) ?_; intro v' W4 hrow4 hg4 hv4; replace hrow4 := Lib.hid hrow4; replace hg4 := Lib.hid hg4; obtain ⟨VA, vc, rfl, _, _⟩ := own_form hrow4.out))
      have hO3 := Lib.hid (hO1.out _ hb3.out)
      clear hO1 hS4 hcc2 hbd
      go_wp2
      go_roundw
      case rel =>
        obtain ⟨r3, h3, _, bw3, _⟩ := hO3.out
        have hba : Below W3.heap.size W3 (W3.alloc (Obj.cells #[Value.string ⟨n.toArray⟩, Value.slice CA hs.length cc] 138)) := (Below.refl _ _).alloc (Nat.le_refl _) _
        have hro := r3.alloc (Obj.cells #[Value.string ⟨n.toArray⟩, Value.slice CA hs.length cc] 138)
        refine ⟨k + 1, by omega, by go_num, ?_, ?_⟩
        · rw [htk.out]
          refine OwnTab.snoc (b := ⟨n, hs⟩) (vs := vs) hvl.out (fun k b u h1 h2 => ((h3 k b u h1 h2).keepB hba).keepRow hro (by decide) hg4.out) (((hcu.out.lower hsz1).keepB hba).keepRow hro (by decide) hg4.out) ?_
          rw [hkl.out]; exact hrow4.out
        · exact bw3.trans ((hba.mono bw3.size).trans (own_below hro hg4.out (by have := bw3.size; simp; omega)))
      case measure => simp [intOf]; omega
    · obtain rfl : k = T.length := by omega
      rw [List.take_length] at hO
      obtain ⟨FA, fc, rfl, _⟩ := hO.form
      replace hO := Lib.hid hO
      go_wp2
      go_ret
      exact ⟨_, rfl, hO.out, hb⟩
end Go.Proofs.YtamdhaoglapnnaaGreatDoor
end
end

section
/- Joined: RfT, RfU, RfV. -/
section
/- Rows of branches that are cut, cleared and copied; the walk of slices.Delete. -/
namespace Go.Proofs.YtamdhaoglapnnaaGreatDoor
open Go.RowKit

section
variable {P : Program} (w : World)
theorem run_slice3 (t elem : TypeId) (s : Nat) (hu : P.underlying t = some (.slice elem)) (hs : (P.info? elem).map (·.size) = some s) (A : Option Addr) (n cap k j m : Nat) (hk : k ≤ j) (hj : j ≤ m) (hm : m ≤ cap) :
    (Instr.sliceAt t (.slice A n cap) (some (.int .i64 (k : Int))) (some (.int .i64 (j : Int))) (some (.int .i64 (m : Int)))).run P w = .ok (.slice (cutA A m k s) (j - k) (m - k)) w := by
  cases hq : P.info? elem with
  | none => simp [hq] at hs
  | some i =>
    have hi : i.size = s := by simpa [hq] using hs
    simp [Instr.sliceAt, Instr.slice, run_underlying hu, Instr.sliceBounds, run_sliceBound, sizeOf, typeInfo, hq, hi, hk, hj, hm, cutA]
theorem run_slice_to (t elem : TypeId) (s : Nat) (hu : P.underlying t = some (.slice elem)) (hs : (P.info? elem).map (·.size) = some s) (A : Option Addr) (n cap j : Nat) (hj : j ≤ cap) :
    (Instr.sliceAt t (.slice A n cap) none (some (.int .i64 (j : Int))) none).run P w = .ok (.slice A j cap) w := by
  cases hq : P.info? elem with
  | none => simp [hq] at hs
  | some i =>
    have ha : ∀ a : Addr, a.add 0 = a := fun a => by unfold Addr.add; simp
    cases A <;> simp [Instr.sliceAt, Instr.slice, run_underlying hu, Instr.sliceBounds, run_sliceBound, sizeOf, typeInfo, hq, hj, ha]
/-- copy between rows, elements of any size. -/
theorem run_copy_any (dT sT ty elem : TypeId) (s : Nat) (g o dLen dCap : Nat) (a : Addr) (sLen sCap : Nat) (cur : List Value) (t : TypeId) (cs : List Value)
    (hu : P.underlying dT = some (.slice elem)) (hs : (P.info? elem).map (·.size) = some s)
    (hg : Blk w g t cur) (hn : cs.length = Nat.min sLen dLen * s)
    (hsrc : ∀ j v, cs[j]? = some v → w.cell? (a.add j) = some v) (hfit : o + cs.length ≤ cur.length) (h1 : ∀ v ∈ cs, v.oneCell' = true) :
    (Builtin.copy_ #[dT, sT] ty #[.slice (some ⟨g, o, none⟩) dLen dCap, .slice (some a) sLen sCap]).run P w =
      .ok (goInt (Nat.min sLen dLen)) (w.setRow g (splice cur o cs).toArray) := by
  have hl := run_loadCells_list (P := P) w a cs hsrc
  have hst := run_storeCells_at P g o t cs 0 cur.toArray w hg (by simpa using hfit) h1
  cases hq : P.info? elem with
  | none => simp [hq] at hs
  | some i =>
    have hi : i.size = s := by simpa [hq] using hs
    simp only [Nat.add_zero] at hst
    simp [Builtin.copy_, run_underlying hu, Builtin.lenOf, Builtin.firstCells, sizeOf, typeInfo, hq, hi, ← hn, hl, hst, splice]
end
theorem run_clear_one (w : World) (ty : TypeId) (g o c : Nat) (cur : List Value) (hg : Blk w g 138 cur) (hfit : o + 2 ≤ cur.length) :
    (Builtin.clear_ #[110] ty #[.slice (some ⟨g, o, none⟩) 1 c]).run Tryz.prog w = .ok (.tuple #[]) (w.setRow g (splice cur o zeroBr).toArray) := by
  have hst := run_storeCells_at Tryz.prog g o 138 zeroBr 0 cur.toArray w hg (by simpa [zeroBr] using hfit) (by simp [zeroBr, Value.oneCell'])
  simp only [Nat.add_zero] at hst
  have hz : (Builtin.zeroCells (Value.agg #[.string ⟨#[]⟩, .slice none 0 0]).cells 1).toList = zeroBr := by kernel_rfl
  simp [Builtin.clear_, run_underlying Tryz.underlying110, hz, hst, splice]
/-- A row of branches in one's own block. -/
theorem row_blk {w : World} {base : Nat} {v : Value} {n : Nat} {xs : List Value} (h : w.ownsRow base 138 2 v n xs) (hn : 0 < n) :
    ∃ g cap cur, v = .slice (some ⟨g, 0, none⟩) n cap ∧ base ≤ g ∧ Blk w g 138 cur ∧ n ≤ cap ∧ cap ≤ maxLen ∧ cur.length = cap * 2 ∧ cur.take (n * 2) = xs := by
  rcases h.2 with ⟨_, h0⟩ | ⟨g, cap, cur, rfl, hb, hg, h1, h2, h3, h4⟩
  · omega
  · exact ⟨g, cap, cur.toList, rfl, hb, by unfold Blk; simpa using hg, h1, h2, by simpa using h3, h4⟩
theorem blk_row {w : World} {base g cap n : Nat} {cur xs : List Value} (hb : base ≤ g) (hg : Blk w g 138 cur) (h1 : n ≤ cap) (h2 : cap ≤ maxLen) (h3 : cur.length = cap * 2) (h4 : cur.take (n * 2) = xs) :
    w.ownsRow base 138 2 (.slice (some ⟨g, 0, none⟩) n cap) n xs :=
  ⟨by rw [← h4, List.length_take, h3]; omega, .inr ⟨g, cap, cur.toArray, rfl, hb, hg, h1, h2, by simpa using h3, by simpa using h4⟩⟩
def RowTo (w : World) (base : Nat) (v : Value) (n : Nat) (xs : List Value) (e : Ending) (w' : World) : Prop :=
  ∃ v', e = .returned v' ∧ w'.ownsRow base 138 2 v' n xs ∧ w.grownBy w' v.ownBlock ∧ (v'.ownBlock = v.ownBlock ∨ ∀ b, v'.ownBlock = some b → w.heap.size ≤ b)
theorem grown_row {w : World} {g : Nat} (c : Array Value) : w.grownBy (w.setRow g c) (some g) := ⟨rfl, rfl, rfl, by simp [World.setRow], fun k _ hne => setRow_other _ _ _ _ (fun e => hne (by rw [e]))⟩
theorem grown_tr {w w1 w2 : World} {r : Option Nat} (h1 : w.grownBy w1 r) (h2 : w1.grownBy w2 r) : w.grownBy w2 r :=
  ⟨h2.os.trans h1.os, h2.tape.trans h1.tape, h2.output.trans h1.output, Nat.le_trans h1.size h2.size, fun k hk hne => (h2.block k (Nat.lt_of_lt_of_le hk h1.size) hne).trans (h1.block k hk hne)⟩
theorem brInfoI : ∃ i, Tryz.prog.info? 138 = some i ∧ i.size = 2 := by
  have h := brSz
  cases hq : Tryz.prog.info? 138 with
  | none => simp [hq] at h
  | some i => exact ⟨i, rfl, by simpa [hq] using h⟩
set_option maxRecDepth 100000 in
set_option maxHeartbeats 4000000 in
theorem delete_any (base : Nat) (v : Value) (n i : Nat) (xs : List Value) (w : World) (ho : w.ownsRow base 138 2 v n xs) (hi : i < n) (hn : n ≤ 4398046511104) (h1 : ∀ u ∈ xs, u.oneCell' = true) :
    Calls Tryz.prog 252 #[v, .int .i64 i, .int .i64 ((i : Int) + 1)] w (RowTo w base v (n - 1) (xs.take (i * 2) ++ xs.drop ((i + 1) * 2))) := by
  obtain ⟨g, cap, cur, rfl, hbg, hB, hc1, hc2, hcl, hct⟩ := row_blk ho (by omega)
  obtain ⟨inf, hinf, hinfs⟩ := brInfoI
  have e1 : ((i + 1 : Nat) : Int) = (i : Int) + 1 := rfl
  have s1 := fun w => run_slice3 (P := Tryz.prog) w 110 138 2 Tryz.underlying110 brSz (some ⟨g, 0, none⟩) n cap i (i + 1) n (by omega) (by omega) hc1
  have s2 := fun w => run_slice_to (P := Tryz.prog) w 110 138 2 Tryz.underlying110 brSz (some ⟨g, 0, none⟩) n cap i (by omega)
  have s3 := fun w => run_sliceAt_from (P := Tryz.prog) w 110 138 2 Tryz.underlying110 brSz (some ⟨g, 0, none⟩) n cap (i + 1) (by omega)
  have s4 := fun w => run_sliceAt_mid (P := Tryz.prog) w 110 138 2 Tryz.underlying110 brSz (some ⟨g, 0, none⟩) (n - 1) cap (n - 1) n (by omega) hc1
  have ec : cutA (some ⟨g, 0, none⟩) cap (n - 1) 2 = some ⟨g, (n - 1) * 2, none⟩ := by
    unfold cutA
    rw [if_neg (by omega)]
    simp [addr_add]
  rw [ec, show n - (n - 1) = 1 by omega] at s4
  rw [e1] at s1 s3
  have hne : ((i : Int) == (i : Int) + 1) = false := by rw [beq_eq_false_iff_ne]; omega
  have hn0 : 0 < n := by omega
  replace s1 := Lib.hid s1
  replace s2 := Lib.hid s2
  clear s3
  replace s4 := Lib.hid s4
  have hpre : w.ownsRow base 138 2 (.slice (some ⟨g, 0, none⟩) i cap) i (xs.take (i * 2)) := blk_row hbg hB (by omega) hc2 hcl (by rw [← hct, List.take_take]; congr 1; omega)
  have hxl : xs.length = n * 2 := ho.1
  have hnews : (xs.drop ((i + 1) * 2)).length = (n - (i + 1)) * 2 := by rw [List.length_drop, hxl]; omega
  have hsrc : ∀ ad, (if cap = i + 1 then some (⟨g, 0, none⟩ : Addr) else some ⟨g, (i + 1) * 2, none⟩) = some ad → ∀ j u, (xs.drop ((i + 1) * 2))[j]? = some u → w.cell? (ad.add j) = some u := fun ad had j u hu => by
    have hj : j < (xs.drop ((i + 1) * 2)).length := (List.getElem?_eq_some_iff.1 hu).1
    rw [if_neg (by omega)] at had
    simp only [Option.some.injEq] at had
    subst had
    rw [addr_add, hB.cell]
    rw [List.getElem?_drop] at hu
    rw [← hct, List.getElem?_take_of_lt (by omega)] at hu
    exact hu
  have hnone : (if cap = i + 1 then some (⟨g, 0, none⟩ : Addr) else some ⟨g, (i + 1) * 2, none⟩) = none → n - (i + 1) = 0 ∧ cap - (i + 1) = 0 := fun h => by
    split at h <;> cases h
  have hone : Hid (∀ u ∈ xs.drop ((i + 1) * 2), u.oneCell' = true) := Lib.hid (fun u hu => h1 u (List.mem_of_mem_drop hu))
  replace hpre := Lib.hid hpre
  replace hnews := Lib.hid hnews
  replace hsrc := Lib.hid hsrc
  replace hnone := Lib.hid hnone
  replace hct := Lib.hid hct
  replace hcl := Lib.hid hcl
  replace hxl := Lib.hid hxl
  replace hinf := Lib.hid hinf
  replace hinfs := Lib.hid hinfs
  have i1 : (0 : Int) ≤ (i : Int) := by omega
  clear h1 ec e1
  have hs1 := s1.out
  have hs4 := s4.out
  go_enter Tryz.func252, Tryz.ntmps252
  go_wp2_with fail
  refine quiet_tail 6 (by kernel_rfl) (by kernel_rfl) ?_
  simp only [List.take_succ_cons, List.take_zero, List.drop_succ_cons, List.drop_zero]
  repeat (first
    | (refine wpQuiet_run (Op.slice 110 (.tmp 20) none (some (.tmp 21)) none) rfl rfl (.slice (some ⟨g, 0, none⟩) i cap) (fun w _ => ?_) ?_
       · have e0 : ∀ k : Nat, k = k := fun _ => rfl
         exact (congrArg (fun r => Result.andThen r _) (s2.out w))
       go_frame)
    | go_big_quiet_step (fail))
  refine wpQuiet_nil ?_
  rintro _ ⟨nq, rfl⟩
  refine wpList_append_fits_any (w.drewN nq) rfl (.tmp 22) (.tmp 25) 110 rfl base 138 inf 2 Tryz.underlying110 hinf.out hinfs.out g i cap (xs.take (i * 2)) rfl hpre.out (if cap = i + 1 then some (⟨g, 0, none⟩ : Addr) else some ⟨g, (i + 1) * 2, none⟩) (n - (i + 1)) (cap - (i + 1)) (xs.drop ((i + 1) * 2)) rfl hnews.out hnone.out hsrc.out hone.out (by omega) ?_
  intro w2 hrow2 hg2
  have en : i + (n - (i + 1)) = n - 1 := by omega
  rw [en] at hrow2 ⊢
  generalize (if cap = i + 1 then some (⟨g, 0, none⟩ : Addr) else some ⟨g, (i + 1) * 2, none⟩) = AA
  have hg3 : w.grownBy w2 (some g) := ⟨hg2.os, hg2.tape, hg2.output, hg2.size, hg2.block⟩
  have hrow3 : ∃ cur2, Blk w2 g 138 cur2 ∧ cur2.length = cap * 2 ∧ cur2.take ((n - 1) * 2) = xs.take (i * 2) ++ xs.drop ((i + 1) * 2) := by
    rcases hrow2.2 with ⟨h, _⟩ | ⟨g', cap', cur', h, _, hg, _, _, h3, h4⟩
    · cases h
    · injection h with ha hb hc
      injection ha with ha
      injection ha with ha
      subst ha; subst hc
      exact ⟨cur'.toList, by unfold Blk; simpa using hg, by simpa using h3, h4⟩
  obtain ⟨cur2, hB2, hl2, ht2⟩ := hrow3
  have hclr := fun ty => run_clear_one w2 ty g ((n - 1) * 2) (cap - (n - 1)) cur2 hB2 (by rw [hl2]; omega)
  replace hB2 := Lib.hid hB2
  replace hl2 := Lib.hid hl2
  replace ht2 := Lib.hid ht2
  replace hg3 := Lib.hid hg3
  clear hrow2 hg2 en hpre hsrc hnone hnews hs1
  go_wp2
  go_ret
  refine ⟨_, rfl, ?_, ?_, .inl rfl⟩
  · refine blk_row hbg (hB2.out.setRow_same _) (by omega) hc2 ?_ ?_
    · have hz : zeroBr.length = 2 := rfl
      have := hl2.out
      simp only [splice, List.length_append, List.length_take, List.length_drop, hz]; omega
    · have hlt : (cur2.take ((n - 1) * 2)).length = (n - 1) * 2 := by rw [List.length_take, hl2.out]; omega
      unfold splice
      rw [List.take_append_of_le_length (by rw [hlt]; exact Nat.le_refl _), List.take_take, Nat.min_self]
      exact ht2.out
  · exact grown_tr hg3.out (grown_row _)
end Go.Proofs.YtamdhaoglapnnaaGreatDoor
end

section
/- The walk of slices.Insert: one branch. -/
namespace Go.Proofs.YtamdhaoglapnnaaGreatDoor
open Go.RowKit

section
variable {α : Type}
theorem splice_at (A B C : List α) : splice (A ++ B) A.length C = A ++ (C ++ B.drop C.length) := by
  unfold splice
  rw [List.take_left, ← List.drop_drop, List.drop_left]
theorem splice_two (c S : List α) (a b : α) (o : Nat) (h : o + 2 ≤ c.length) : splice (splice c (o + 2) S) o [a, b] = c.take o ++ ([a, b] ++ (S ++ c.drop (o + 2 + S.length))) := by
  have h1 : (c.take (o + 2)).length = o + 2 := by rw [List.length_take]; omega
  unfold splice
  have e1 : (c.take (o + 2) ++ (S ++ c.drop (o + 2 + S.length))).take o = c.take o := by
    rw [List.take_append_of_le_length (by omega), List.take_take]; congr 1; omega
  have e2 : (c.take (o + 2) ++ (S ++ c.drop (o + 2 + S.length))).drop (o + [a, b].length) = S ++ c.drop (o + 2 + S.length) := by
    have : o + [a, b].length = (c.take (o + 2)).length := by rw [h1]; rfl
    rw [this, List.drop_left]
  rw [e1, e2]
end
/-- copy(d, s) between rows, elements of any size. -/
theorem wpList_copy_any {P : Program} {w : World} {ops : Array Oper} {rest : List Oper} {o : Oper} {a : Act} {Q : Exit → Act → World → Prop} (hgd : o.guard = none) (d s : Operand) (dT sT : TypeId)
    (ho : o.op = .call { callee := .builtin .copy, args := #[d, s], argTypes := #[dT, sT] }) (elem : TypeId) (size : Nat) (hu : P.underlying dT = some (.slice elem)) (hsz : (P.info? elem).map (·.size) = some size)
    (g off dLen dCap : Nat) (ad : Addr) (sLen sCap : Nat) (hd : a.eval d = .slice (some ⟨g, off, none⟩) dLen dCap) (hs : a.eval s = .slice (some ad) sLen sCap)
    (cur : List Value) (t : TypeId) (hg : Blk w g t cur) (cs : List Value) (hn : cs.length = Nat.min sLen dLen * size)
    (hsrc : ∀ j v, cs[j]? = some v → w.cell? (ad.add j) = some v) (hfit : off + cs.length ≤ cur.length) (h1 : ∀ v ∈ cs, v.oneCell' = true)
    (h : wpList P ops Q rest (a.put o.dst (goInt (Nat.min sLen dLen))) (w.setRow g (splice cur off cs).toArray)) : wpList P ops Q (o :: rest) a w := by
  refine wpList_plain hgd fun _ hK => ?_
  have hrun := run_copy_any (P := P) w dT sT o.type elem size g off dLen dCap ad sLen sCap cur t cs hu hsz hg hn hsrc hfit h1
  unfold Oper.wp execOp
  simp only [ho, resolve, invoke, builtin, Sem.run_bind, Sem.run_pure, Result.andThen_ok, List.map_toArray, List.map_cons, List.map_nil, hd, hs, hrun]
  exact hK _ _ h
theorem setRow_grown' (w : World) (n g : Nat) (c : Array Value) : w.grownBy ((w.drewN n).setRow g c) (some g) :=
  ⟨rfl, rfl, rfl, by simp, fun k _ hne => setRow_other _ _ _ _ (fun e => hne (by rw [e]))⟩
set_option maxRecDepth 100000 in
set_option maxHeartbeats 4000000 in
theorem insert_end (base : Nat) (v : Value) (n : Nat) (xs : List Value) (gx : Nat) (a b : Value) (w : World) (ho : w.ownsRow base 138 2 v n xs) (hn : n ≤ 2199023255552)
    (hx : Blk w gx 138 [a, b]) (ha : a.oneCell' = true) (hb : b.oneCell' = true) (hbase : base ≤ w.heap.size) :
    Calls Tryz.prog 253 #[v, .int .i64 n, .slice (some ⟨gx, 0, none⟩) 1 1] w (RowTo w base v (n + 1) (xs ++ [a, b])) := by
  obtain ⟨A, cap, rfl, hc1, hc2⟩ := own_form ho
  have hs1 := fun w => run_sliceAt_from (P := Tryz.prog) w 110 138 2 Tryz.underlying110 brSz A n cap n (by omega)
  have hrd : Hid (Rd w (fun _ => True) (some ⟨gx, 0, none⟩) [a, b]) := Lib.hid (Rd.of_blk (r := []) hx rfl trivial)
  have hone : Hid (∀ u ∈ [a, b], u.oneCell' = true) := Lib.hid (by simp [ha, hb])
  have hnb : (n + 1) * 40 ≤ 140737488355328 := by omega
  replace ho := Lib.hid ho
  clear hx ha hb
  go_enter Tryz.func253, Tryz.ntmps253
  go_wp2_with (at_builtin; refine wpList_append_rd _ rfl (.tmp 23) (.tmp 24) 110 rfl base 138 (.agg zeroBr.toArray) 2 40 Tryz.underlying110 brInfo (.slice A n cap) n xs rfl ho.out (fun _ => True) (some ⟨gx, 0, none⟩) 1 1 [a, b] rfl rfl hrd.out hone.out (by unfold maxLen; omega) (by omega) hbase ?_; intro v' w2 hrow2 hg2 hv2; replace hrow2 := Lib.hid hrow2; replace hg2 := Lib.hid hg2; obtain ⟨VA, vc, rfl, _, _⟩ := own_form hrow2.out; go_frame)
  go_ret
  refine ⟨.slice VA (n + 1) vc, rfl, hrow2.out, hg2.out, ?_⟩
  rcases hv2 with h | h
  · exact .inl h
  · exact .inr (fun k hk => by rw [h] at hk; injection hk with hk; omega)
set_option maxRecDepth 100000 in
set_option maxHeartbeats 4000000 in
theorem insert_room (base n i : Nat) (g cap : Nat) (cur xs : List Value) (gx : Nat) (a b : Value) (w : World) (hbg : base ≤ g) (hB : Blk w g 138 cur) (hc1 : n + 1 ≤ cap) (hc2 : cap ≤ maxLen) (hcl : cur.length = cap * 2) (hct : cur.take (n * 2) = xs) (hn : n ≤ 2199023255552) (hi : i < n)
    (h1 : ∀ u ∈ xs, u.oneCell' = true) (hx : Blk w gx 138 [a, b]) (ha : a.oneCell' = true) (hb : b.oneCell' = true) (hne : gx ≠ g) :
    Calls Tryz.prog 253 #[.slice (some ⟨g, 0, none⟩) n cap, .int .i64 i, .slice (some ⟨gx, 0, none⟩) 1 1] w (RowTo w base (.slice (some ⟨g, 0, none⟩) n cap) (n + 1) (xs.take (i * 2) ++ [a, b] ++ xs.drop (i * 2))) := by
  have e1 : ((i + 1 : Nat) : Int) = (i : Int) + 1 := rfl
  have en : ((n + 1 : Nat) : Int) = (n : Int) + 1 := rfl
  have hs1 := fun w => run_sliceAt_from (P := Tryz.prog) w 110 138 2 Tryz.underlying110 brSz (some ⟨g, 0, none⟩) n cap i (by omega)
  have hs2 := fun w => run_slice_to (P := Tryz.prog) w 110 138 2 Tryz.underlying110 brSz (some ⟨g, 0, none⟩) n cap (n + 1) hc1
  have hs3 := fun w => run_sliceAt_from (P := Tryz.prog) w 110 138 2 Tryz.underlying110 brSz (some ⟨g, 0, none⟩) (n + 1) cap (i + 1) (by omega)
  have hs4 := fun w => run_sliceAt_from (P := Tryz.prog) w 110 138 2 Tryz.underlying110 brSz (some ⟨g, 0, none⟩) (n + 1) cap i (by omega)
  have ec : ∀ k, k < cap → cutA (some ⟨g, 0, none⟩) cap k 2 = some ⟨g, k * 2, none⟩ := fun k hk => by
    unfold cutA
    rw [if_neg (by omega)]
    simp [addr_add]
  rw [en] at hs2
  rw [e1, ec _ (by omega)] at hs3
  rw [ec _ (by omega)] at hs1 hs4
  have hov : Hid ((Extern.SlicesOverlaps.overlaps #[110, 110] #[4] #[.slice (some ⟨gx, 0, none⟩) 1 1, .slice (some ⟨g, (i + 1) * 2, none⟩) (n + 1 - (i + 1)) (cap - (i + 1))]).run Tryz.prog w = .ok (.bool false) w) := Lib.hid (by
    refine Lib.run_overlaps_apart w _ _ 138 Tryz.underlying110 2 (fun w => by kernel_rfl) _ _ _ _ _ _ hne 138 138 2 (cap * 2) ?_ ?_ (by omega) ?_ ?_
    · unfold Blk at hx; simp [World.shape?, hx]
    · unfold Blk at hB; simp [World.shape?, hB, hcl]
    · exact hx.frozen 0
    · exact hx.frozen 2)
  rw [show n + 1 - (i + 1) = n - i by omega] at hov hs3
  have d1 : decide (1 ≤ (cap : Int) - (n : Int)) = true := by simp; omega
  have hgt : decide ((cap : Int) < (n : Int) + 1) = false := decide_eq_false (by omega)
  have hne2 : ((i : Int) == (n : Int)) = false := by rw [beq_eq_false_iff_ne]; omega
  obtain ⟨ys, hys⟩ : ∃ ys, ys = xs.take (i * 2) ++ [a, b] ++ xs.drop (i * 2) := ⟨_, rfl⟩
  rw [← hys]
  clear ec e1 en
  have hxl : xs.length = n * 2 := by rw [← hct, List.length_take, hcl]; omega
  have hS : (xs.drop (i * 2)).length = (n - i) * 2 := by rw [List.length_drop, hxl]; omega
  have hsrc : ∀ j v, (xs.drop (i * 2))[j]? = some v → w.cell? ((⟨g, i * 2, none⟩ : Addr).add j) = some v := fun j v hv => by
    have hj := (List.getElem?_eq_some_iff.1 hv).1
    rw [addr_add, hB.cell]
    rw [List.getElem?_drop, ← hct, List.getElem?_take_of_lt (by omega)] at hv
    exact hv
  have hfin : Hid ((splice (splice cur ((i + 1) * 2) (xs.drop (i * 2))) (i * 2) [a, b]).length = cap * 2 ∧ (splice (splice cur ((i + 1) * 2) (xs.drop (i * 2))) (i * 2) [a, b]).take ((n + 1) * 2) = ys) := Lib.hid (by
    have e := splice_two cur (xs.drop (i * 2)) a b (i * 2) (by omega)
    rw [show i * 2 + 2 = (i + 1) * 2 by omega] at e
    rw [e]
    have e2 : cur.take (i * 2) = xs.take (i * 2) := by rw [← hct, List.take_take]; congr 1; omega
    refine ⟨by simp only [List.length_append, List.length_take, List.length_drop, List.length_cons, List.length_nil, hcl, hxl]; omega, ?_⟩
    rw [e2, hys, ← List.append_assoc, ← List.append_assoc]
    rw [List.take_left' (by simp only [List.length_append, List.length_take, List.length_drop, List.length_cons, List.length_nil, hxl]; omega)])
  have hone1 : Hid (∀ u ∈ xs.drop (i * 2), u.oneCell' = true) := Lib.hid (fun u hu => h1 u (List.mem_of_mem_drop hu))
  have hone2 : Hid (∀ u ∈ [a, b], u.oneCell' = true) := Lib.hid (by simp [ha, hb])
  obtain ⟨S, hSS⟩ : ∃ S, S = xs.drop (i * 2) := ⟨_, rfl⟩
  rw [← hSS] at hS hsrc hfin hone1
  have hB1 : Hid (∀ nq, Blk ((w.drewN nq).setRow g (splice cur ((i + 1) * 2) S).toArray) g 138 (splice cur ((i + 1) * 2) S)) := Lib.hid (fun nq => (hB.drewN nq).setRow_same _)
  have hX1 : Hid (∀ nq, Blk ((w.drewN nq).setRow g (splice cur ((i + 1) * 2) S).toArray) gx 138 [a, b]) := Lib.hid (fun nq => (hx.drewN nq).setRow_far hne _)
  have hlen1 : Hid ((splice cur ((i + 1) * 2) S).length = cap * 2) := Lib.hid (by
    simp only [splice, List.length_append, List.length_take, List.length_drop, hcl, hS]; omega)
  replace hS := Lib.hid hS
  replace hsrc := Lib.hid hsrc
  replace hB := Lib.hid hB
  replace hcl := Lib.hid hcl
  clear hys hSS h1 ha hb hx hct hxl
  have i1 : (0 : Int) ≤ (i : Int) := by omega
  go_enter Tryz.func253, Tryz.ntmps253
  go_wp2_with fail
  rw [run_callFunc_extern Tryz.func306 (by kernel_rfl) (by kernel_rfl) (by kernel_rfl) (e := Extern.SlicesOverlaps.overlaps #[110, 110] #[4]) (by kernel_rfl)]
  rw [hov.out]
  simp only [Result.andThen]
  rw [Oper.upon_value]
  go_wp2_with fail
  refine quiet_tail 8 (by kernel_rfl) (by kernel_rfl) ?_
  simp only [List.take_succ_cons, List.take_zero, List.drop_succ_cons, List.drop_zero]
  repeat (first
    | (refine wpQuiet_run (Op.slice 110 (.tmp 69) (some (.tmp 72)) none none) rfl rfl (.slice (some ⟨g, (i + 1) * 2, none⟩) (n - i) (cap - (i + 1))) (fun w _ => ?_) ?_
       · exact (congrArg (fun r => Result.andThen r _) (hs3 w))
       go_frame)
    | (refine wpQuiet_run (Op.slice 110 (.tmp 74) (some (.tmp 75)) none none) rfl rfl (.slice (some ⟨g, i * 2, none⟩) (n + 1 - i) (cap - i)) (fun w _ => ?_) ?_
       · exact (congrArg (fun r => Result.andThen r _) (hs4 w))
       go_frame)
    | go_big_quiet_step (fail))
  refine wpQuiet_nil ?_
  rintro _ ⟨nq, rfl⟩
  refine wpList_copy_any rfl (.tmp 73) (.tmp 76) 110 110 rfl 138 2 Tryz.underlying110 brSz g ((i + 1) * 2) (n - i) (cap - (i + 1)) ⟨g, i * 2, none⟩ (n + 1 - i) (cap - i) rfl rfl cur 138 (hB.out.drewN nq) S (by rw [hS.out, show Nat.min (n + 1 - i) (n - i) = n - i from Nat.min_eq_right (by omega)]) hsrc.out (by rw [hS.out, hcl.out]; omega) hone1.out ?_
  have hB1' := hB1.out nq
  have hX1' := hX1.out nq
  have hgr : Hid (w.grownBy ((w.drewN nq).setRow g (splice cur ((i + 1) * 2) S).toArray) (some g)) := Lib.hid (setRow_grown' w nq g _)
  generalize (w.drewN nq).setRow g (splice cur ((i + 1) * 2) S).toArray = w2 at hB1' hX1' hgr ⊢
  obtain ⟨c1, hc1'⟩ : ∃ c1, c1 = splice cur ((i + 1) * 2) S := ⟨_, rfl⟩
  rw [← hc1'] at hB1' hfin
  have hl2 : Hid (c1.length = cap * 2) := Lib.hid (by rw [hc1']; exact hlen1.out)
  clear hB hsrc hov hS hs3 hc1' hB1 hX1 hlen1
  go_wp2_with (refine wpList_copy_any rfl (.tmp 80) (.tmp 81) 110 110 rfl 138 2 Tryz.underlying110 brSz g (i * 2) (n + 1 - i) (cap - i) ⟨gx, 0, none⟩ 1 1 rfl rfl c1 138 hB1' [a, b] (by rw [show Nat.min 1 (n + 1 - i) = 1 from Nat.min_eq_left (by omega)]; rfl) (blk_src hX1' 0 [a, b] [] rfl) (by rw [hl2.out]; simp; omega) hone2.out ?_)
  go_ret
  refine ⟨_, rfl, blk_row hbg (hB1'.setRow_same _) hc1 hc2 hfin.out.1 hfin.out.2, grown_tr hgr.out (grown_row _), .inl rfl⟩
end Go.Proofs.YtamdhaoglapnnaaGreatDoor
end

section
/- The walk of slices.Insert: where there is no room; whatever the room. -/
namespace Go.Proofs.YtamdhaoglapnnaaGreatDoor
open Go.RowKit

theorem brInfoAll : ∃ i, Tryz.prog.info? 138 = some i ∧ i.zero = some (.agg zeroBr.toArray) ∧ i.size = 2 ∧ i.bytes = 40 := by
  have h := brInfo.info
  cases hq : Tryz.prog.info? 138 with
  | none => simp [hq] at h
  | some i =>
    simp only [hq, Option.map_some, Option.some.injEq, Prod.mk.injEq] at h
    exact ⟨i, rfl, h.1, h.2.1, h.2.2⟩
/-- append(s[:i], make(S, n + 1 - i)...), where that is beyond the capacity. -/
theorem grow_zeros (w : World) (ty : TypeId) (g n i cap : Nat) (P : List Value) (hP : P.length = i * 2) (hc : ∀ j v, P[j]? = some v → w.cell? ((⟨g, 0, none⟩ : Addr).add j) = some v) (hi : i < n) (hcap : cap < n + 1) (hn : n ≤ 2199023255552) :
    ∃ nc Z W2, (Builtin.append_ #[110, 3] ty #[.slice (some ⟨g, 0, none⟩) i cap, .int .i64 ((n + 1 - i : Nat) : Int)]).run Tryz.prog w = .ok (.slice (some ⟨w.heap.size, 0, none⟩) (n + 1) nc) W2 ∧
      Blk W2 w.heap.size 138 (P ++ Z) ∧ (P ++ Z).length = nc * 2 ∧ n + 1 ≤ nc ∧ nc ≤ maxLen ∧ Below w.heap.size w W2 := by
  obtain ⟨inf, hi0, hz, hsz, hby⟩ := brInfoAll
  have hold : (Builtin.firstCells inf.size i (.slice (some ⟨g, 0, none⟩) i cap)).run Tryz.prog w.drew = .ok P.toArray w.drew := by
    have hl := run_loadCells_list (P := Tryz.prog) w.drew ⟨g, 0, none⟩ P hc
    simp only [Builtin.firstCells, hsz, ← hP]
    exact hl
  have hfit : Builtin.nextslicecap (i + (n + 1 - i)) cap * inf.bytes ≤ 281474976710656 := by rw [hby]; exact growslice_fits (by omega) (by omega)
  have hr := Lib.run_append_grow_zeros (P := Tryz.prog) w 110 3 ty 138 inf (.agg zeroBr.toArray) .i64 .i64 Tryz.underlying110 Tryz.underlying3 hi0 hz (some ⟨g, 0, none⟩) i cap P hold (n + 1 - i) (by omega) (by omega) (by omega) (by omega) (by rw [hby]; omega) hfit
  have en : i + (n + 1 - i) = n + 1 := by omega
  rw [en] at hr
  have hge := grownCap_ge w (n + 1) cap 138
  have hle := grownCap_le_maxLen w (n + 1) cap 138 (by unfold maxLen; omega)
  obtain ⟨nc, hnc⟩ : ∃ nc, nc = grownCap w (n + 1) cap 138 := ⟨_, rfl⟩
  rw [← hnc] at hr hge hle
  refine ⟨nc, (Builtin.zeroCells (Value.agg zeroBr.toArray).cells (n + 1 - i)).toList ++ (Builtin.zeroCells (Value.agg zeroBr.toArray).cells (nc - (n + 1))).toList, _, hr, ?_, ?_, hge, hle, ?_⟩
  · have := heap_alloc_new w.drew (.cells (P.toArray ++ Builtin.zeroCells (Value.agg zeroBr.toArray).cells (n + 1 - i) ++ Builtin.zeroCells (Value.agg zeroBr.toArray).cells (nc - (n + 1))) 138)
    unfold Blk
    rw [show w.drew.heap.size = w.heap.size from rfl] at this
    rw [this]
    simp
  · have e2 : (Value.agg zeroBr.toArray).cells.size = 2 := rfl
    simp only [List.length_append, Array.length_toList, size_zeroCells, hP, e2]
    omega
  · exact ((Below.refl w.heap.size w).drew).alloc (Nat.le_refl _) _
set_option maxRecDepth 100000 in
set_option maxHeartbeats 4000000 in
theorem insert_grow (base n i : Nat) (g cap : Nat) (cur xs : List Value) (gx : Nat) (a b : Value) (w : World) (hbase : base ≤ w.heap.size) (hB : Blk w g 138 cur) (hc0 : n ≤ cap) (hc1 : cap < n + 1) (hcl : cur.length = cap * 2) (hct : cur.take (n * 2) = xs) (hn : n ≤ 2199023255552) (hi : i < n)
    (h1 : ∀ u ∈ xs, u.oneCell' = true) (hx : Blk w gx 138 [a, b]) (ha : a.oneCell' = true) (hb : b.oneCell' = true) :
    Calls Tryz.prog 253 #[.slice (some ⟨g, 0, none⟩) n cap, .int .i64 i, .slice (some ⟨gx, 0, none⟩) 1 1] w (RowTo w base (.slice (some ⟨g, 0, none⟩) n cap) (n + 1) (xs.take (i * 2) ++ [a, b] ++ xs.drop (i * 2))) := by
  have e1 : ((i + 1 : Nat) : Int) = (i : Int) + 1 := rfl
  have hs1 := fun w => run_sliceAt_from (P := Tryz.prog) w 110 138 2 Tryz.underlying110 brSz (some ⟨g, 0, none⟩) n cap i (by omega)
  have hs2 := fun w => run_slice_to (P := Tryz.prog) w 110 138 2 Tryz.underlying110 brSz (some ⟨g, 0, none⟩) n cap i (by omega)
  have ec : ∀ g k c, k < c → cutA (some ⟨g, 0, none⟩) c k 2 = some ⟨g, k * 2, none⟩ := fun g k c hk => by
    unfold cutA
    rw [if_neg (by omega)]
    simp [addr_add]
  rw [ec _ _ _ (by omega)] at hs1
  have hxl : xs.length = n * 2 := by rw [← hct, List.length_take, hcl]; omega
  have hP : (xs.take (i * 2)).length = i * 2 := by rw [List.length_take, hxl]; omega
  have hS : (xs.drop (i * 2)).length = (n - i) * 2 := by rw [List.length_drop, hxl]; omega
  obtain ⟨ys, hys⟩ : ∃ ys, ys = xs.take (i * 2) ++ [a, b] ++ xs.drop (i * 2) := ⟨_, rfl⟩
  rw [← hys]
  have hPc : ∀ j v, (xs.take (i * 2))[j]? = some v → w.cell? ((⟨g, 0, none⟩ : Addr).add j) = some v := fun j v hv => by
    have hj := (List.getElem?_eq_some_iff.1 hv).1
    rw [addr_add, hB.cell, Nat.zero_add]
    rw [← hct, List.take_take] at hv
    rw [List.getElem?_take_of_lt (by omega)] at hv
    exact hv
  have hSc : ∀ j v, (xs.drop (i * 2))[j]? = some v → w.cell? ((⟨g, i * 2, none⟩ : Addr).add j) = some v := fun j v hv => by
    have hj := (List.getElem?_eq_some_iff.1 hv).1
    rw [addr_add, hB.cell]
    rw [List.getElem?_drop, ← hct, List.getElem?_take_of_lt (by omega)] at hv
    exact hv
  have hone1 : Hid (∀ u ∈ xs.drop (i * 2), u.oneCell' = true) := Lib.hid (fun u hu => h1 u (List.mem_of_mem_drop hu))
  have hone2 : Hid (∀ u ∈ [a, b], u.oneCell' = true) := Lib.hid (by simp [ha, hb])
  obtain ⟨nc, Z, W2, hrun, hN, hNl, hn1, hn2, hbl⟩ : ∃ nc Z W2, (∀ ty, (Builtin.append_ #[110, 3] ty #[.slice (some ⟨g, 0, none⟩) i cap, .int .i64 ((n + 1 - i : Nat) : Int)]).run Tryz.prog w = .ok (.slice (some ⟨w.heap.size, 0, none⟩) (n + 1) nc) W2) ∧
      Blk W2 w.heap.size 138 (xs.take (i * 2) ++ Z) ∧ (xs.take (i * 2) ++ Z).length = nc * 2 ∧ n + 1 ≤ nc ∧ nc ≤ maxLen ∧ Below w.heap.size w W2 := by
    obtain ⟨nc, Z, W2, h⟩ := grow_zeros w 0 g n i cap (xs.take (i * 2)) hP hPc hi hc1 hn
    exact ⟨nc, Z, W2, fun ty => h.1, h.2⟩
  obtain ⟨gn, hgn⟩ : ∃ gn, gn = w.heap.size := ⟨_, rfl⟩
  rw [← hgn] at hrun hN
  have hs3 := fun w => run_sliceAt_from (P := Tryz.prog) w 110 138 2 Tryz.underlying110 brSz (some ⟨gn, 0, none⟩) (n + 1) nc i (by omega)
  have hs4 := fun w => run_sliceAt_from (P := Tryz.prog) w 110 138 2 Tryz.underlying110 brSz (some ⟨gn, 0, none⟩) (n + 1) nc (i + 1) (by omega)
  rw [ec _ _ _ (by omega)] at hs3 hs4
  rw [e1, show n + 1 - (i + 1) = n - i by omega] at hs4
  have hX2 := hx.below hbl hx.lt
  have hgl : g < w.heap.size := hB.lt
  have hgxl : gx < w.heap.size := hx.lt
  obtain ⟨PP, hPP⟩ : ∃ PP, PP = xs.take (i * 2) := ⟨_, rfl⟩
  obtain ⟨S, hSS⟩ : ∃ S, S = xs.drop (i * 2) := ⟨_, rfl⟩
  rw [← hSS] at hS hSc hone1 hys
  rw [← hPP] at hP hN hNl hys
  have hc1e : splice (PP ++ Z) (i * 2) [a, b] = (PP ++ [a, b]) ++ Z.drop 2 := by
    rw [← hP, splice_at, ← List.append_assoc]; rfl
  have hPl : (PP ++ [a, b]).length = (i + 1) * 2 := by rw [List.length_append, hP]; simp; omega
  have hc2e : Hid ((splice (splice (PP ++ Z) (i * 2) [a, b]) ((i + 1) * 2) S).length = nc * 2 ∧ (splice (splice (PP ++ Z) (i * 2) [a, b]) ((i + 1) * 2) S).take ((n + 1) * 2) = ys) := Lib.hid (by
    rw [hc1e]
    have hZ : Z.length = nc * 2 - i * 2 := by rw [List.length_append, hP] at hNl; omega
    have e := splice_at (PP ++ [a, b]) (Z.drop 2) S
    rw [hPl] at e
    rw [e]
    refine ⟨by simp only [List.length_append, hPl, hS, List.length_drop, hZ]; omega, ?_⟩
    rw [hys, ← List.append_assoc, List.take_left' (by simp only [List.length_append, hS, hP, List.length_cons, List.length_nil]; omega)])
  have hSc2 : Hid (∀ W, Below w.heap.size w W → ∀ j v, S[j]? = some v → W.cell? ((⟨g, i * 2, none⟩ : Addr).add j) = some v) := Lib.hid (fun W hW j v hv => by
    rw [hW.cell (p := (⟨g, i * 2, none⟩ : Addr).add j) (by rw [block_add]; exact hgl)]; exact hSc j v hv)
  have hc1l : Hid ((splice (PP ++ Z) (i * 2) [a, b]).length = nc * 2) := Lib.hid (by
    have hZ : Z.length = nc * 2 - i * 2 := by rw [List.length_append, hP] at hNl; omega
    rw [hc1e, List.length_append, hPl, List.length_drop, hZ]; omega)
  have d1 : decide (1 ≤ (cap : Int) - (n : Int)) = false := by simp; omega
  have hgt : decide ((cap : Int) < (n : Int) + 1) = true := decide_eq_true (by omega)
  have hne2 : ((i : Int) == (n : Int)) = false := by rw [beq_eq_false_iff_ne]; omega
  have hsrcX : Hid (∀ j v, [a, b][j]? = some v → W2.cell? ((⟨gx, 0, none⟩ : Addr).add j) = some v) := Lib.hid (blk_src hX2 0 [a, b] [] rfl)
  replace hN := Lib.hid hN
  replace hNl := Lib.hid hNl
  replace hrun := Lib.hid hrun
  replace hbl := Lib.hid hbl
  replace hS := Lib.hid hS
  replace hgn := Lib.hid hgn
  clear hys hSS hPP h1 ha hb hx hct hxl hSc hPc hc1e hPl hP hX2 hB hcl ec e1
  have i1 : (0 : Int) ≤ (i : Int) := by omega
  go_enter Tryz.func253, Tryz.ntmps253
  go_wp2_with (first
    | (at_builtin; refine Lib.wpList_append_run _ rfl (.tmp 34) (.tmp 39) _ _ rfl (.slice (some ⟨g, 0, none⟩) i cap) (.int .i64 ((n + 1 - i : Nat) : Int)) rfl (congrArg (Value.int .i64) (by omega)) _ _ (hrun.out _) ?_; go_frame)
    | (refine wpList_copy_any rfl (.tmp 43) (.tmp 44) 110 110 rfl 138 2 Tryz.underlying110 brSz gn (i * 2) (n + 1 - i) (nc - i) ⟨gx, 0, none⟩ 1 1 rfl rfl (PP ++ Z) 138 hN.out [a, b] (by rw [show Nat.min 1 (n + 1 - i) = 1 from Nat.min_eq_left (by omega)]; rfl) hsrcX.out (by rw [hNl.out]; simp; omega) hone2.out ?_; go_frame))
  have hB3 : Hid (∀ nq, Blk ((W2.setRow gn (splice (PP ++ Z) (i * 2) [a, b]).toArray).drewN nq) gn 138 (splice (PP ++ Z) (i * 2) [a, b])) := Lib.hid (fun nq => (hN.out.setRow_same _).drewN nq)
  have hbl3 : Hid (∀ nq, Below w.heap.size w ((W2.setRow gn (splice (PP ++ Z) (i * 2) [a, b]).toArray).drewN nq)) := Lib.hid (fun nq => below_drewN (below_setRow hbl.out (by rw [hgn.out]; exact Nat.le_refl _) _) nq)
  refine quiet_tail 8 (by kernel_rfl) (by kernel_rfl) ?_
  simp only [List.take_succ_cons, List.take_zero, List.drop_succ_cons, List.drop_zero]
  repeat (first
    | (refine wpQuiet_run (Op.slice 110 (.tmp 46) (some (.tmp 49)) none none) rfl rfl (.slice (some ⟨gn, (i + 1) * 2, none⟩) (n - i) (nc - (i + 1))) (fun w _ => ?_) ?_
       · exact (congrArg (fun r => Result.andThen r _) (hs4 w))
       go_frame)
    | (refine wpQuiet_run (Op.slice 110 (.tmp 51) (some (.tmp 52)) none none) rfl rfl (.slice (some ⟨g, i * 2, none⟩) (n - i) (cap - i)) (fun w _ => ?_) ?_
       · exact (congrArg (fun r => Result.andThen r _) (hs1 w))
       go_frame)
    | go_big_quiet_step (fail))
  refine wpQuiet_nil ?_
  rintro _ ⟨nq, rfl⟩
  have hB4 := hB3.out nq
  have hbl4 := hbl3.out nq
  generalize (W2.setRow gn (splice (PP ++ Z) (i * 2) [a, b]).toArray).drewN nq = W4 at hB4 hbl4 ⊢
  refine wpList_copy_any rfl (.tmp 50) (.tmp 53) 110 110 rfl 138 2 Tryz.underlying110 brSz gn ((i + 1) * 2) (n - i) (nc - (i + 1)) ⟨g, i * 2, none⟩ (n - i) (cap - i) rfl rfl (splice (PP ++ Z) (i * 2) [a, b]) 138 hB4 S (by rw [hS.out, show Nat.min (n - i) (n - i) = n - i from Nat.min_self _]) (hSc2.out _ hbl4) (by rw [hS.out, hc1l.out]; omega) hone1.out ?_
  clear hB3 hbl3 hrun
  go_wp2
  go_ret
  refine ⟨.slice (some ⟨gn, 0, none⟩) (n + 1) nc, rfl, blk_row (by rw [hgn.out]; exact hbase) (hB4.setRow_same _) hn1 hn2 hc2e.out.1 hc2e.out.2, ?_, .inr (fun k hk => ?_)⟩
  · have hb5 := below_setRow hbl4 (by rw [hgn.out]; exact Nat.le_refl _) (splice (splice (PP ++ Z) (i * 2) [a, b]) ((i + 1) * 2) S).toArray (g := gn)
    exact grown_of_below hb5
  · have : gn = k := by simpa [Value.ownBlock] using hk
    rw [← this, hgn.out]; exact Nat.le_refl _
theorem insert_any (base : Nat) (v : Value) (n i : Nat) (xs : List Value) (gx : Nat) (a b : Value) (w : World) (ho : w.ownsRow base 138 2 v n xs) (hn : n ≤ 2199023255552) (hi : i ≤ n)
    (h1 : ∀ u ∈ xs, u.oneCell' = true) (hx : Blk w gx 138 [a, b]) (ha : a.oneCell' = true) (hb : b.oneCell' = true) (hbase : base ≤ w.heap.size) (hne : v.ownBlock ≠ some gx) :
    Calls Tryz.prog 253 #[v, .int .i64 i, .slice (some ⟨gx, 0, none⟩) 1 1] w (RowTo w base v (n + 1) (xs.take (i * 2) ++ [a, b] ++ xs.drop (i * 2))) := by
  by_cases he : i = n
  · subst he
    have hxl : xs.length = i * 2 := ho.1
    rw [List.take_of_length_le (by omega), List.drop_of_length_le (by omega), List.append_nil]
    exact insert_end base v i xs gx a b w ho hn hx ha hb hbase
  · obtain ⟨g, cap, cur, rfl, hbg, hB, hc1, hc2, hcl, hct⟩ := row_blk ho (by omega)
    have hg : gx ≠ g := fun e => hne (by rw [e]; rfl)
    by_cases hr : n + 1 ≤ cap
    · exact insert_room base n i g cap cur xs gx a b w hbg hB hr hc2 hcl hct hn (by omega) h1 hx ha hb hg
    · exact insert_grow base n i g cap cur xs gx a b w hbase hB hc1 (by omega) hcl hct hn (by omega) h1 hx ha hb
end Go.Proofs.YtamdhaoglapnnaaGreatDoor
end
end

section
/- Joined: RfA, RfW, RfX. -/
section
/- Changes in plain words: what a place in a sorted table has to do with what the document says. -/
namespace Go.Proofs.YtamdhaoglapnnaaGreatDoor
open Go.RowKit

def midT (c : Chg) : Tab := if c.new = [] then [] else [⟨c.name, c.new⟩]
def stepT (T : Tab) (c : Chg) : Tab := T.take (posT T c.name) ++ (midT c ++ (if hitT T c.name then T.drop (posT T c.name + 1) else T.drop (posT T c.name)))
theorem putG_none {n : Str} {h : List Str} : ∀ {r : Tab}, (∀ b ∈ r, b.name ≠ n) → putG n h true r = r
  | [], _ => rfl
  | b :: r, hb => by
    unfold putG
    rw [if_neg (by simp), if_neg (hb b (by simp)), putG_none (r := r) (fun x hx => hb x (by simp [hx]))]
    rfl
theorem putG_first {n : Str} {h : List Str} : ∀ {r : Tab}, (∀ b ∈ r, lessS n b.name = true) → putG n h false r = ⟨n, h⟩ :: r
  | [], _ => rfl
  | b :: r, hb => by
    have h1 := hb b (by simp)
    unfold putG
    rw [if_pos ⟨rfl, h1⟩, if_neg (fun e => lessS_ne h1 e.symm), putG_none (r := r) (fun x hx e => lessS_ne (hb x (by simp [hx])) e.symm)]
    rfl
theorem put_mid {n : Str} {h : List Str} {r : Tab} (hb : ∀ b ∈ r, lessS n b.name = true) : putG n h (decide (h = [])) r = (if h = [] then [] else [⟨n, h⟩]) ++ r := by
  by_cases hh : h = []
  · rw [decide_eq_true hh, if_pos hh, putG_none (fun x hx e => lessS_ne (hb x hx) e.symm)]
    rfl
  · rw [decide_eq_false hh, if_neg hh, putG_first hb]
    rfl
theorem putG_at {n : Str} {h : List Str} : ∀ {T : Tab}, sorted T → putG n h (decide (h = [])) T = T.take (posT T n) ++ ((if h = [] then [] else [⟨n, h⟩]) ++ (if hitT T n then T.drop (posT T n + 1) else T.drop (posT T n)))
  | [], _ => by
    have := put_mid (n := n) (h := h) (r := []) (by simp)
    rw [this]
    simp [posT, hitT]
  | b :: r, hs => by
    obtain ⟨h1, h2⟩ := List.pairwise_cons.1 hs
    by_cases hb : lessS b.name n = true
    · have e : posT (b :: r) n = posT r n + 1 := by unfold posT; rw [List.takeWhile_cons, if_pos hb, List.length_cons]
      have eh : hitT (b :: r) n = hitT r n := by unfold hitT; rw [e, List.getElem?_cons_succ]
      have hnb : lessS n b.name = false := lessS_asym _ _ hb
      have ih := putG_at (n := n) (h := h) h2
      rw [e, eh]
      unfold putG
      rw [if_neg (by simp [hnb]), if_neg (lessS_ne hb), ih]
      simp only [List.take_succ_cons, List.drop_succ_cons, List.cons_append, List.nil_append]
    · have hb' : lessS b.name n = false := by simpa using hb
      have e : posT (b :: r) n = 0 := by unfold posT; rw [List.takeWhile_cons, if_neg hb]; rfl
      by_cases he : b.name = n
      · have eh : hitT (b :: r) n = true := by unfold hitT; rw [e]; simp [he]
        rw [e, eh]
        unfold putG
        rw [if_neg (by rw [he, lessS_irr]; simp), if_pos he, put_mid (fun x hx => by rw [← he]; exact h1 x hx)]
        simp
      · have hn : lessS n b.name = true := by
          cases hc : lessS n b.name with
          | true => rfl
          | false => exact absurd (lessS_total _ _ hb' hc) he
        have eh : hitT (b :: r) n = false := by unfold hitT; rw [e]; simp [he]
        rw [e, eh]
        have := put_mid (n := n) (h := h) (r := b :: r) (fun x hx => by
          rcases List.mem_cons.1 hx with rfl | hx
          · exact hn
          · exact lessS_trans _ _ _ hn (h1 x hx))
        rw [this]
        simp
theorem step_put {T : Tab} (hs : sorted T) (c : Chg) : stepT T c = putT T c.name c.new := (putG_at hs).symm
theorem posT_split {T : Tab} (hs : sorted T) (n : Str) : (∀ b ∈ T.take (posT T n), lessS b.name n = true) ∧ (∀ b ∈ (if hitT T n then T.drop (posT T n + 1) else T.drop (posT T n)), lessS n b.name = true) := by
  refine ⟨fun b hb => ?_, fun b hb => ?_⟩
  · obtain ⟨x, hx, rfl⟩ := List.mem_iff_getElem.1 hb
    rw [List.length_take] at hx
    rw [List.getElem_take]
    exact posT_lt x (by omega) (by omega)
  · have hrest : ∀ x (hx : x < T.length), posT T n < x → lessS n T[x].name = true := fun x hx hlt => by
      have hp : posT T n < T.length := by omega
      have g1 := posT_ge hp
      have g2 := sorted_lt hs hlt hx
      cases hc : lessS n T[posT T n].name with
      | true => exact lessS_trans _ _ _ hc g2
      | false => rw [← lessS_total _ _ g1 hc]; exact g2
    by_cases hh : hitT T n = true
    · rw [if_pos hh] at hb
      obtain ⟨x, hx, rfl⟩ := List.mem_iff_getElem.1 hb
      rw [List.length_drop] at hx
      rw [List.getElem_drop]
      exact hrest _ (by omega) (by omega)
    · rw [if_neg hh] at hb
      obtain ⟨x, hx, rfl⟩ := List.mem_iff_getElem.1 hb
      rw [List.length_drop] at hx
      rw [List.getElem_drop]
      rcases Nat.eq_zero_or_pos x with hx0 | hx0
      · subst hx0
        have hp : posT T n < T.length := by omega
        have g1 := posT_ge hp
        have hne : T[posT T n].name ≠ n := fun e => hh (by unfold hitT; rw [List.getElem?_eq_getElem hp]; simp [e])
        simp only [Nat.add_zero]
        cases hc : lessS n T[posT T n].name with
        | true => rfl
        | false => exact absurd (lessS_total _ _ g1 hc) hne
      · exact hrest _ (by omega) (by omega)
theorem sorted_step {T : Tab} (hs : sorted T) (c : Chg) : sorted (stepT T c) := by
  obtain ⟨h1, h2⟩ := posT_split hs c.name
  have hd : (if hitT T c.name then T.drop (posT T c.name + 1) else T.drop (posT T c.name)).Sublist T := by
    split
    · exact List.drop_sublist _ _
    · exact List.drop_sublist _ _
  unfold stepT sorted
  rw [List.pairwise_append]
  refine ⟨hs.sublist (List.take_sublist _ _), ?_, ?_⟩
  · rw [List.pairwise_append]
    refine ⟨?_, hs.sublist hd, ?_⟩
    · unfold midT; split <;> simp
    · intro a ha b hb
      unfold midT at ha
      split at ha
      · cases ha
      · rw [List.mem_singleton.1 ha]; exact h2 b hb
  · intro a ha b hb
    rcases List.mem_append.1 hb with hb | hb
    · unfold midT at hb
      split at hb
      · cases hb
      · rw [List.mem_singleton.1 hb]; exact h1 a ha
    · exact lessS_trans _ _ _ (h1 a ha) (h2 b hb)
theorem step_len (T : Tab) (c : Chg) : (stepT T c).length ≤ T.length + 1 := by
  have hm : (midT c).length ≤ 1 := by unfold midT; split <;> simp
  have hp := posT_le T c.name
  unfold stepT
  rw [List.length_append, List.length_append, List.length_take]
  split
  · rw [List.length_drop]; omega
  · rw [List.length_drop]; omega
theorem step_mem {T : Tab} {c : Chg} {b : Br} (h : b ∈ stepT T c) : b ∈ T ∨ (b = ⟨c.name, c.new⟩ ∧ c.new ≠ []) := by
  unfold stepT at h
  rcases List.mem_append.1 h with h | h
  · exact .inl (List.mem_of_mem_take h)
  · rcases List.mem_append.1 h with h | h
    · unfold midT at h
      split at h
      · cases h
      · rename_i hn; exact .inr ⟨List.mem_singleton.1 h, hn⟩
    · split at h
      · exact .inl (List.mem_of_mem_drop h)
      · exact .inl (List.mem_of_mem_drop h)
/-- Every table on the way. -/
structure Way (T : Tab) (k : Nat) : Prop where
  sorted : sorted T
  len : T.length ≤ 32 + k
  fit : ∀ b ∈ T, BFit b
theorem Way.step {T : Tab} {k : Nat} (h : Way T k) {c : Chg} (hc : CFit1 c) : Way (stepT T c) (k + 1) :=
  ⟨sorted_step h.sorted c, by have := step_len T c; have := h.len; omega, fun b hb => by
    rcases step_mem hb with hb | ⟨rfl, _⟩
    · exact h.fit b hb
    · exact ⟨hc.name, hc.new⟩⟩
theorem foldl_step : ∀ (C : List Chg) (T : Tab), sorted T → C.foldl stepT T = putsT T C
  | [], _, _ => rfl
  | c :: C, T, hs => by
    unfold putsT
    rw [List.foldl_cons, List.foldl_cons, step_put hs]
    have := foldl_step C (putT T c.name c.new) (by rw [← step_put hs]; exact sorted_step hs c)
    exact this
/-! ### cells -/
theorem tCells_split : ∀ (T : Tab) (vs : List Value) (i : Nat), vs.length = T.length → (tCells T vs).take (i * 2) = tCells (T.take i) (vs.take i) ∧ (tCells T vs).drop (i * 2) = tCells (T.drop i) (vs.drop i)
  | T, vs, 0, _ => by simp [tCells]
  | [], [], i + 1, _ => by simp [tCells]
  | [], _ :: _, _, h => by simp at h
  | _ :: _, [], _, h => by simp at h
  | b :: T, v :: vs, i + 1, h => by
    obtain ⟨h1, h2⟩ := tCells_split T vs i (by simpa using h)
    rw [show (i + 1) * 2 = i * 2 + 1 + 1 by omega]
    simp only [tCells, List.take_succ_cons, List.drop_succ_cons, h1, h2, and_self]
theorem tCells_one {w : World} {base : Nat} : ∀ (T : Tab) (vs : List Value), vs.length = T.length → (∀ (k : Nat) b u, T[k]? = some b → vs[k]? = some u → HdIs w (DgAt w base) u b.heads) → ∀ u ∈ tCells T vs, u.oneCell' = true
  | [], _, _, _ => by simp [tCells]
  | _ :: _, [], h, _ => by simp at h
  | b :: T, v :: vs, h, hh => by
    intro u hu
    simp only [tCells, List.mem_cons] at hu
    rcases hu with rfl | rfl | hu
    · rfl
    · obtain ⟨A, c, e, _⟩ := hh 0 b _ rfl rfl
      rw [e]; rfl
    · exact tCells_one T vs (by simpa using h) (fun k b u h1 h2 => hh (k + 1) b u (by simpa using h1) (by simpa using h2)) u hu
end Go.Proofs.YtamdhaoglapnnaaGreatDoor
end

section
/- A table of one's own that is cut and filled; the walk of refs.Apply, first half. -/
namespace Go.Proofs.YtamdhaoglapnnaaGreatDoor
open Go.RowKit

theorem zip_all {α β : Type} {P : α → β → Prop} : ∀ (T : List α) (vs : List β), (∀ (k : Nat) b u, T[k]? = some b → vs[k]? = some u → P b u) ↔ ∀ p ∈ T.zip vs, P p.1 p.2 := fun T vs => by
  constructor
  · intro h p hp
    obtain ⟨k, hk, rfl⟩ := List.mem_iff_getElem.1 hp
    rw [List.length_zip] at hk
    rw [List.getElem_zip]
    exact h k _ _ (List.getElem?_eq_getElem (by omega)) (List.getElem?_eq_getElem (by omega))
  · intro h k b u h1 h2
    obtain ⟨l1, e1⟩ := List.getElem?_eq_some_iff.1 h1
    obtain ⟨l2, e2⟩ := List.getElem?_eq_some_iff.1 h2
    have : (b, u) ∈ T.zip vs := List.mem_iff_getElem.2 ⟨k, by rw [List.length_zip]; omega, by rw [List.getElem_zip, e1, e2]⟩
    exact h _ this
theorem zip_take_mem {α β : Type} {T : List α} {vs : List β} {i : Nat} {p : α × β} (h : p ∈ (T.take i).zip (vs.take i)) : p ∈ T.zip vs := by
  obtain ⟨k, hk, rfl⟩ := List.mem_iff_getElem.1 h
  rw [List.length_zip, List.length_take, List.length_take] at hk
  rw [List.getElem_zip, List.getElem_take, List.getElem_take]
  exact List.mem_iff_getElem.2 ⟨k, by rw [List.length_zip]; omega, by rw [List.getElem_zip]⟩
theorem zip_drop_mem {α β : Type} {T : List α} {vs : List β} {i : Nat} {p : α × β} (h : p ∈ (T.drop i).zip (vs.drop i)) : p ∈ T.zip vs := by
  obtain ⟨k, hk, rfl⟩ := List.mem_iff_getElem.1 h
  rw [List.length_zip, List.length_drop, List.length_drop] at hk
  rw [List.getElem_zip, List.getElem_drop, List.getElem_drop]
  exact List.mem_iff_getElem.2 ⟨i + k, by rw [List.length_zip]; omega, by rw [List.getElem_zip]⟩
/-- A row's parts, and what is put between them. -/
theorem OwnTab.parts {w' : World} {base : Nat} {v' : Value} {T M : Tab} {vs ms : List Value} {i j : Nat} (hl : vs.length = T.length) (hml : ms.length = M.length) (hi : i ≤ T.length)
    (hh : ∀ (k : Nat) b u, T[k]? = some b → vs[k]? = some u → HdIs w' (DgAt w' base) u b.heads) (hm : ∀ (k : Nat) b u, M[k]? = some b → ms[k]? = some u → HdIs w' (DgAt w' base) u b.heads)
    {n : Nat} (hn : n = i + M.length + (T.length - j)) (hrow : w'.ownsRow base 138 2 v' n ((tCells T vs).take (i * 2) ++ tCells M ms ++ (tCells T vs).drop (j * 2))) : OwnTab w' base v' (T.take i ++ M ++ T.drop j) := by
  have l1 : (vs.take i).length = (T.take i).length := by rw [List.length_take, List.length_take, hl]
  have l2 : (vs.drop j).length = (T.drop j).length := by rw [List.length_drop, List.length_drop, hl]
  refine ⟨vs.take i ++ ms ++ vs.drop j, by simp only [List.length_append, l1, l2, hml], ?_, ?_⟩
  · have e : tCells (T.take i ++ M ++ T.drop j) (vs.take i ++ ms ++ vs.drop j) = (tCells T vs).take (i * 2) ++ tCells M ms ++ (tCells T vs).drop (j * 2) := by
      rw [tCells_app _ _ (by simp only [List.length_append, l1, hml]), tCells_app _ _ l1, (tCells_split T vs i hl).1, (tCells_split T vs j hl).2]
    rw [e]
    have en : (T.take i ++ M ++ T.drop j).length = n := by
      simp only [List.length_append, List.length_take, List.length_drop, hn]; omega
    rw [en]
    exact hrow
  · have h1 := (zip_all T vs).1 hh
    have h2 := (zip_all M ms).1 hm
    refine (zip_all _ _).2 (fun p hp => ?_)
    rw [List.zip_append (by simp only [List.length_append, l1, hml]), List.zip_append l1.symm] at hp
    rcases List.mem_append.1 hp with hp | hp
    · rcases List.mem_append.1 hp with hp | hp
      · exact h1 p (zip_take_mem hp)
      · exact h2 p hp
    · exact h1 p (zip_drop_mem hp)
theorem ChsIs.take {w : World} {ok : Nat → Prop} {A : Option Addr} {n c : Nat} {C : List Chg} (h : ChsIs w ok (.slice A n c) C) (k : Nat) (hk : k ≤ C.length) : ChsIs w ok (.slice A k c) (C.take k) := by
  obtain ⟨A', c', vs, hl, e, hc, hr, hh⟩ := h
  injection e with e1 e2 e3
  subst e1; subst e3
  have lk : (C.take k).length = k := by rw [List.length_take]; omega
  have lv : (vs.take k).length = k := by rw [List.length_take, hl]; omega
  refine ⟨A, c, vs.take k, by rw [lk, lv], by rw [lk], by rw [lk]; omega, ?_, fun i b u h1 h2 => ?_⟩
  · have e : cCells (C.take k) (vs.take k) = (cCells C vs).take (k * 3) := by
      have ha := cCells_app (C.take k) (vs.take k) (by rw [lk, lv]) (C.drop k) (vs.drop k)
      rw [List.take_append_drop, List.take_append_drop] at ha
      have hll := cCells_len (C.take k) (vs.take k) (by rw [lk, lv])
      rw [lk] at hll
      rw [ha, List.take_left' hll]
    rw [e]
    exact hr.take _
  · have hi : i < k := by
      have := (List.getElem?_eq_some_iff.1 h1).1
      omega
    rw [List.getElem?_take_of_lt hi] at h1 h2
    exact hh i b u h1 h2
theorem wrongs_at (T : Tab) (C : List Chg) (k : Nat) (hk : k < C.length) : wrongsE T (C.take k) (C.drop k) = if wrongE T (C.take k) C[k] = 0 then wrongsE T (C.take (k + 1)) (C.drop (k + 1)) else wrongE T (C.take k) C[k] := by
  rw [List.drop_eq_getElem_cons hk]
  conv => lhs; unfold wrongsE
  rw [take_at hk]
def zeroCh : List Value := [.string ⟨#[]⟩, .slice none 0 0, .slice none 0 0]
/-- What Apply gives. -/
def ApplyTo (w : World) (T : Tab) (C : List Chg) (e : Ending) (w' : World) : Prop := ∃ v, e = .returned (.tuple #[v, .int .i64 (applyE T C)]) ∧ OwnTab w' w.heap.size v (applyT T C) ∧ Below w.heap.size w w'
theorem apply_bad {w w' : World} {T : Tab} {C : List Chg} {x : Int} (he : applyE T C = x) (hx : x ≠ 0) (hb : Below w.heap.size w w') {e : Ending} (h : e = .returned (.tuple #[.slice none 0 0, .int .i64 x])) : ApplyTo w T C e w' := by
  refine ⟨.slice none 0 0, by rw [h, he], ?_, hb⟩
  unfold applyT
  rw [if_neg (by rw [he]; exact hx)]
  exact OwnTab.nil
end Go.Proofs.YtamdhaoglapnnaaGreatDoor
end

section
/- The walk of refs.Apply. -/
namespace Go.Proofs.YtamdhaoglapnnaaGreatDoor
open Go.RowKit

theorem three_cells {w : World} {b o : Nat} {x y z : Value} (h : ∀ j u, [x, y, z][j]? = some u → w.cell? ⟨b, o + j, none⟩ = some u) : w.cell? ⟨b, o, none⟩ = some x ∧ w.cell? ⟨b, o + 1, none⟩ = some y ∧ w.cell? ⟨b, o + 2, none⟩ = some z := ⟨h 0 _ rfl, h 1 _ rfl, h 2 _ rfl⟩
set_option maxRecDepth 100000 in
set_option maxHeartbeats 8000000 in
theorem apply_any (T : Tab) (C : List Chg) (v u : Value) (ok ok' : Nat → Prop) (w : World) (h : TabIs w ok v T) (hf : TFit T) (h' : ChsIs w ok' u C) (hc : CFit C) :
    Calls Tryz.prog 178 #[v, u] w (ApplyTo w T C) := by
  obtain ⟨A, tc, rfl, htc⟩ := h.form
  obtain ⟨CA, cc, rfl, hcc⟩ := h'.form
  have hmay := Lib.hid (may_any T _ ok w h hf)
  have hlT := hf.len
  have hlC := hc.len
  have hAE : applyE T C = if mayE T = 0 then (if 32 < C.length then 4 else if wrongsE T [] C = 0 then (if 32 < (putsT T C).length then 4 else 0) else wrongsE T [] C) else mayE T := rfl
  by_cases hm : mayE T = 0
  · rw [if_pos hm] at hAE
    obtain ⟨ml, mb, ms⟩ := (mayE_zero T).1 hm
    rw [hm] at hmay
    clear hm
    by_cases h32 : 32 < C.length
    · rw [if_pos h32] at hAE
      replace hAE := Lib.hid hAE
      clear h h' hf hc
      go_enter Tryz.func178, Tryz.ntmps178
      go_wp2_with fail
      refine hmay.out.mono ?_
      rintro e w1 ⟨rfl, hb1⟩
      replace hb1 := Lib.hid hb1
      go_wp2
      go_ret2
      exact apply_bad hAE.out (by decide) hb1.out rfl
    · rw [if_neg h32] at hAE
      have hC32 : C.length ≤ 32 := by omega
      have hT := Lib.hid h.ltB
      have hCh := Lib.hid h'.ltB
      replace hf := Lib.hid hf
      replace hc := Lib.hid hc
      replace ms := Lib.hid ms
      replace mb := Lib.hid mb
      replace hAE := Lib.hid hAE
      clear h h' h32
      go_enter Tryz.func178, Tryz.ntmps178
      go_wp2_with fail
      refine hmay.out.mono ?_
      rintro e w1 ⟨rfl, hb1⟩
      clear hmay
      go_wp2_with fail
      go_loopw [25] (fun i wr => ∃ k : Nat, k ≤ C.length ∧ i = .int .i64 k ∧ Hid (wrongsE T [] C = wrongsE T (C.take k) (C.drop k)) ∧ Below w.heap.size w wr) (fun i _ => C.length - (intOf i).toNat)
      case atStart => exact ⟨0, Nat.zero_le _, rfl, Lib.hid rfl, hb1⟩
      case round =>
        clear hb1
        obtain ⟨k, hk, rfl, hw, hb⟩ := hrel
        by_cases hlt : k < C.length
        · have hT1 := hT.out.low hb
          have hC1 := hCh.out.low hb
          obtain ⟨b, o, x, y, rfl, hbl, _, hX, hY, hcells⟩ := hC1.ch k hlt
          have hat := wrongs_at T C k hlt
          rw [← hw.out] at hat
          have hc1 := hc.out.ok C[k] (List.getElem_mem hlt)
          have hCt := hC1.take k (by omega)
          obtain ⟨c, hcc2⟩ : ∃ c, c = C[k] := ⟨_, rfl⟩
          rw [← hcc2] at hX hY hcells hat hc1
          have hbox := (Blk.new_at (w := wr) (g := wr.heap.size) (t := 180) (cs := zeroCh) rfl).setRow_same [strV c.name, x, y]
          have hbx1 : Below wr.heap.size wr ((wr.alloc (.cells zeroCh.toArray 180)).setRow wr.heap.size [strV c.name, x, y].toArray) := below_setRow ((Below.refl _ _).alloc (Nat.le_refl _) _) (Nat.le_refl _) _
          obtain ⟨W1, hW1⟩ : ∃ W1, W1 = (wr.alloc (.cells zeroCh.toArray 180)).setRow wr.heap.size [strV c.name, x, y].toArray := ⟨_, rfl⟩
          rw [← hW1] at hbox hbx1
          replace hW1 := Lib.hid hW1
          have hbW := hb.trans (hbx1.mono hb.size)
          have hcall := Lib.hid (fun s : Over W1 => wrong_any T (C.take k) c (.slice A T.length tc) (.slice (some ⟨b, o, none⟩) k cc) x y _ _ _ s.1 ((hT1.stayB hbx1).stayB s.2) hf.out ms.out ((hCt.stayB hbx1).stayB s.2) (by rw [List.length_take]; omega) ((hX.stayB hbx1).stayB s.2) ((hY.stayB hbx1).stayB s.2) hc1)
          obtain ⟨XA, xc, rfl, _, _⟩ := id hX
          obtain ⟨YA, yc, rfl, _, _⟩ := id hY
          have hone : Hid (∀ v ∈ [strV c.name, Value.slice XA c.old.length xc, Value.slice YA c.new.length yc], v.oneCell' = true) := Lib.hid (by simp [strV, Value.oneCell'])
          replace hcells := Lib.hid hcells
          have hbox' := Lib.hid (fun s : Over W1 => blk_over hbox s)
          obtain ⟨z, hz⟩ : ∃ z, z = wrongE T (C.take k) c := ⟨_, rfl⟩
          rw [← hz] at hcall hat
          replace hat := Lib.hid hat
          have i1 : (0 : Int) ≤ (k : Int) := by omega
          have i2 : (k : Int) < (C.length : Int) := by omega
          have hs2 := fun w => run_slice_to (P := Tryz.prog) w 181 180 3 Tryz.underlying181 chSz (some ⟨b, o, none⟩) C.length cc k (by omega)
          clear hT1 hC1 hX hY hCt hw hz hcc2 hc1 hb
          replace hs2 := Lib.hid hs2
          go_wp2_with (first
            | (refine wpList_load_at 180 (.tmp 28) rfl rfl b (o + k * 3) rfl [strV c.name, .slice XA c.old.length xc, .slice YA c.new.length yc] hcells.out _ Tryz.underlying180 rfl chSz ?_; go_frame)
            | (refine wpList_store_blk rfl 180 (.tmp 8) (.tmp 29) rfl wr.heap.size [strV c.name, .slice XA c.old.length xc, .slice YA c.new.length yc] rfl rfl 180 zeroCh (Blk.new_at rfl) rfl chSz hone.out ?_; rw [show (wr.alloc (Obj.cells #[Value.string ⟨#[]⟩, Value.slice none 0 0, Value.slice none 0 0] 180)).setRow wr.heap.size [strV c.name, .slice XA c.old.length xc, .slice YA c.new.length yc].toArray = W1 from hW1.out.symm]; go_frame))
          haveI := over_nonempty W1
          refine quiet_over (by kernel_rfl) (by kernel_rfl) ?_
          repeat (first
            | (refine wpQuiet_run (Op.slice 181 (.tmp 31) none (some (.tmp 32)) none) rfl rfl (.slice (some ⟨b, o, none⟩) k cc) (fun w _ => ?_) ?_
               · exact (congrArg (fun r => Result.andThen r _) (hs2.out w))
               go_frame)
            | (refine wpQuiet_load_part 180 (.tmp 8) rfl rfl wr.heap.size 0 rfl 180 [strV c.name, .slice XA c.old.length xc, .slice YA c.new.length yc] [strV c.name, .slice XA c.old.length xc, .slice YA c.new.length yc] [] (fun w hw => ?_) rfl _ Tryz.underlying180 rfl chSz ?_
               · obtain ⟨s, rfl⟩ := hw
                 exact hbox'.out s
               go_frame)
            | go_big_quiet_step ((go_at_call 251; exact calls_over _ (hcall.out _))))
          refine wpQuiet_nil ?_
          rintro _ ⟨s, rfl⟩
          have hb4 := hbW.trans (s.2.mono hbW.size)
          obtain ⟨w4, hw4⟩ := s
          dsimp only at hb4 ⊢
          clear this hw4 hcall hbox' hs2 hbox hbx1 hbW hW1
          by_cases hz0 : z = 0
          · subst hz0
            have hnext : Hid (wrongsE T [] C = wrongsE T (C.take (k + 1)) (C.drop (k + 1))) := Lib.hid (hat.out.trans (if_pos rfl))
            clear hat
            go_wp2
            go_roundw
            case rel => exact ⟨k + 1, by omega, by go_num, hnext, hb4⟩
            case measure => simp [intOf]; omega
          · have g1 : (z != 0) = true := by simpa using hz0
            have hwz : wrongsE T [] C = z := by rw [hat.out, if_neg hz0]
            have hfin : Hid (applyE T C = z) := Lib.hid (by rw [hAE.out, hwz, if_neg hz0])
            replace hz0 := Lib.hid hz0
            clear hat hwz
            go_wp2
            go_ret2
            exact apply_bad hfin.out hz0.out hb4 rfl
        · obtain rfl : k = C.length := by omega
          have hw0 : wrongsE T [] C = 0 := by rw [hw.out, List.drop_length]; rfl
          have hAE2 : Hid (applyE T C = if 32 < (putsT T C).length then 4 else 0) := Lib.hid (by rw [hAE.out, if_pos hw0])
          have how := Lib.hid (own_any T _ _ wr (hT.out.low hb) hf.out)
          clear hw hw0 hAE
          go_wp2_with fail
          refine how.out.mono ?_
          rintro e w2 ⟨ov, rfl, hO, hb2⟩
          have hsz := hb.size
          replace hO := Lib.hid (hO.lower hsz)
          have hb3 := hb.trans (hb2.mono hsz)
          obtain ⟨OA, oc, rfl, _⟩ := hO.out.form
          have hway : Hid (Way T 0) := Lib.hid ⟨ms.out, ml, hf.out.ok⟩
          clear hb hb2 how
          go_wp2_with fail
          go_loopw [44, 10] (fun i o wr => ∃ k : Nat, k ≤ C.length ∧ i = .int .i64 k ∧ OwnTab wr w.heap.size o ((C.take k).foldl stepT T) ∧ Hid (Way ((C.take k).foldl stepT T) k) ∧ Below w.heap.size w wr) (fun i _ _ => C.length - (intOf i).toNat)
          case atStart => exact ⟨0, Nat.zero_le _, rfl, hO.out, hway, hb3⟩
          case round =>
            clear hO hb3 hway hsz
            obtain ⟨k, hk, rfl, hO, hway, hb⟩ := hrel
            by_cases hlt : k < C.length
            · have hC1 := hCh.out.low hb
              obtain ⟨b, o, x, y, rfl, hbl, _, hX, hY, hcells⟩ := hC1.ch k hlt
              have hc1 := hc.out.ok C[k] (List.getElem_mem hlt)
              have hfk : Hid ((C.take (k + 1)).foldl stepT T = stepT ((C.take k).foldl stepT T) C[k]) := Lib.hid (by rw [take_at hlt, List.foldl_append]; rfl)
              obtain ⟨c, hcc2⟩ : ∃ c, c = C[k] := ⟨_, rfl⟩
              rw [← hcc2] at hX hY hcells hc1 hfk
              obtain ⟨T0, hT0⟩ : ∃ T0, T0 = (C.take k).foldl stepT T := ⟨_, rfl⟩
              rw [← hT0] at hO hway hfk
              clear hcc2 hT0
              have hwn : Hid (Way (stepT T0 c) (k + 1)) := Lib.hid (hway.out.step hc1)
              have hl0 : T0.length ≤ 64 := by have := hway.out.len; omega
              have hs0 := Lib.hid hway.out.sorted
              have hbox := (Blk.new_at (w := wr) (g := wr.heap.size) (t := 180) (cs := zeroCh) rfl).setRow_same [strV c.name, x, y]
              have hbx1 : Below wr.heap.size wr ((wr.alloc (.cells zeroCh.toArray 180)).setRow wr.heap.size [strV c.name, x, y].toArray) := below_setRow ((Below.refl _ _).alloc (Nat.le_refl _) _) (Nat.le_refl _) _
              obtain ⟨W1, hW1⟩ : ∃ W1, W1 = (wr.alloc (.cells zeroCh.toArray 180)).setRow wr.heap.size [strV c.name, x, y].toArray := ⟨_, rfl⟩
              rw [← hW1] at hbox hbx1
              replace hW1 := Lib.hid hW1
              have hbW := hb.trans (hbx1.mono hb.size)
              obtain ⟨XA, xc, rfl, _, _⟩ := id hX
              obtain ⟨YA, yc, rfl, _, _⟩ := id hY
              have hone : Hid (∀ v ∈ [strV c.name, Value.slice XA c.old.length xc, Value.slice YA c.new.length yc], v.oneCell' = true) := Lib.hid (by simp [strV, Value.oneCell'])
              replace hcells := Lib.hid hcells
              have hO1 := hO.keepB hbx1
              obtain ⟨vs, hvl, hrow, hheads⟩ := hO1
              obtain ⟨FA, fc, rfl, _, _⟩ := own_form hrow
              have hneb : ∀ g, (Value.slice FA T0.length fc).ownBlock = some g → g < wr.heap.size := by
                obtain ⟨_, _, ho, _⟩ := hO
                exact fun g hg => (ho.lt g hg).2
              have hat := Lib.hid (at_any T0 _ c.name _ W1 (OwnTab.tab ⟨vs, hvl, hrow, hheads⟩) (by omega) hs0.out)
              have hple := posT_le T0 c.name
              have hY1 := (hY.stayB hbx1)
              have d0 : W1.cell? ⟨wr.heap.size, 0, none⟩ = some (.string ⟨c.name.toArray⟩) := by rw [hbox.cell]; rfl
              have hgl : wr.heap.size < W1.heap.size := hbox.lt
              have i1 : (0 : Int) ≤ (k : Int) := by omega
              have i2 : (k : Int) < (C.length : Int) := by omega
              replace hrow := Lib.hid hrow
              replace hheads := Lib.hid hheads
              replace hvl := Lib.hid hvl
              replace hneb := Lib.hid hneb
              replace hY1 := Lib.hid hY1
              replace hbox := Lib.hid hbox
              replace hbW := Lib.hid hbW
              clear hO hC1 hX hY hb hbx1
              unfold strV at hat
              go_wp2_with (first
                | (refine wpList_load_at 180 (.tmp 46) rfl rfl b (o + k * 3) rfl [strV c.name, .slice XA c.old.length xc, .slice YA c.new.length yc] hcells.out _ Tryz.underlying180 rfl chSz ?_; go_frame)
                | (refine wpList_store_blk rfl 180 (.tmp 12) (.tmp 47) rfl wr.heap.size [strV c.name, .slice XA c.old.length xc, .slice YA c.new.length yc] rfl rfl 180 zeroCh (Blk.new_at rfl) rfl chSz hone.out ?_; rw [show (wr.alloc (Obj.cells #[Value.string ⟨#[]⟩, Value.slice none 0 0, Value.slice none 0 0] 180)).setRow wr.heap.size [strV c.name, .slice XA c.old.length xc, .slice YA c.new.length yc].toArray = W1 from hW1.out.symm]; go_frame))
              refine hat.out.mono ?_
              rintro e w4 ⟨rfl, hb4⟩
              have hrow4 := own_touch (L := []) hrow.out (Touch.ofBelow hb4) (by simp)
              have hh4 := Lib.hid (fun k b u h1 h2 => (hheads.out k b u h1 h2).keepB hb4)
              have hbox4 := hbox.out.below hb4 hgl
              have hY4 := Lib.hid (hY1.out.stayB hb4)
              have hbW4 := Lib.hid (hbW.out.trans (hb4.mono hbW.out.size))
              have hg4 : wr.heap.size < w4.heap.size := hbox4.lt
              clear hb4 hat hrow hheads hbox hY1 hbW hW1 d0 hgl
              have hst : stepT T0 c = T0.take (posT T0 c.name) ++ (midT c ++ (if hitT T0 c.name then T0.drop (posT T0 c.name + 1) else T0.drop (posT T0 c.name))) := rfl
              have hhp : hitT T0 c.name = true → posT T0 c.name < T0.length := fun e => by
                rcases Nat.lt_or_ge (posT T0 c.name) T0.length with h | h
                · exact h
                · unfold hitT at e; rw [List.getElem?_eq_none h] at e; cases e
              obtain ⟨hit, hhit⟩ : ∃ hit, hit = hitT T0 c.name := ⟨_, rfl⟩
              obtain ⟨p, hp⟩ : ∃ p, p = posT T0 c.name := ⟨_, rfl⟩
              rw [← hhit, ← hp] at hst hhp
              rw [← hhit, ← hp]
              rw [← hp] at hple
              replace hst := Lib.hid hst
              clear hhit hp
              have i3 : (0 : Int) ≤ (p : Int) := by omega
              have i4 : (p : Int) ≤ (T0.length : Int) := by omega
              have hone0 := Lib.hid (tCells_one T0 vs hvl.out hh4.out)
              -- the row behind what was there
              have hdel : ∃ T1 vs1, Hid (hit = true → p < T0.length) ∧ vs1.length = T1.length ∧ T1.length ≤ 64 ∧ p ≤ T1.length ∧ stepT T0 c = T1.take p ++ midT c ++ T1.drop p ∧ (hit = false → T1 = T0 ∧ vs1 = vs) ∧ (hit = true → T1.length = T0.length - 1 ∧ tCells T1 vs1 = (tCells T0 vs).take (p * 2) ++ (tCells T0 vs).drop ((p + 1) * 2)) ∧ (∀ w5, (∀ (k : Nat) b u, T0[k]? = some b → vs[k]? = some u → HdIs w5 (DgAt w5 w.heap.size) u b.heads) → ∀ (k : Nat) b u, T1[k]? = some b → vs1[k]? = some u → HdIs w5 (DgAt w5 w.heap.size) u b.heads) := by
                cases hit with
                | false => exact ⟨T0, vs, Lib.hid (fun e => by cases e), hvl.out, hl0, hple, by rw [hst.out, List.append_assoc]; rfl, fun _ => ⟨rfl, rfl⟩, (fun e => by cases e), fun _ h => h⟩
                | true =>
                  have hpl := hhp rfl
                  have l1 : (vs.take p).length = (T0.take p).length := by rw [List.length_take, List.length_take, hvl.out]
                  have l2 : (vs.drop (p + 1)).length = (T0.drop (p + 1)).length := by rw [List.length_drop, List.length_drop, hvl.out]
                  have tl : (T0.take p).length = p := by rw [List.length_take]; omega
                  refine ⟨T0.take p ++ T0.drop (p + 1), vs.take p ++ vs.drop (p + 1), Lib.hid (fun _ => hpl), by simp only [List.length_append, l1, l2], by simp only [List.length_append, List.length_take, List.length_drop]; omega, by simp only [List.length_append, tl]; omega, ?_, (fun e => by cases e), fun _ => ⟨by simp only [List.length_append, List.length_take, List.length_drop]; omega, ?_⟩, fun w5 h5 => ?_⟩
                  · rw [hst.out, List.take_left' tl, List.drop_left' tl, List.append_assoc]; rfl
                  · rw [tCells_app _ _ l1, (tCells_split T0 vs p hvl.out).1, (tCells_split T0 vs (p + 1) hvl.out).2]
                  · have h1 := (zip_all T0 vs).1 h5
                    refine (zip_all _ _).2 (fun q hq => ?_)
                    rw [List.zip_append l1.symm] at hq
                    rcases List.mem_append.1 hq with hq | hq
                    · exact h1 q (zip_take_mem hq)
                    · exact h1 q (zip_drop_mem hq)
              obtain ⟨T1, vs1, hpT0, hv1l, hl1, hple1, hst1, hno, hyes, hheads1⟩ := hdel
              replace hst1 := Lib.hid hst1
              replace hno := Lib.hid hno
              replace hyes := Lib.hid hyes
              replace hheads1 := Lib.hid hheads1
              replace hv1l := Lib.hid hv1l
              clear hst hhp
              have hbx4 := Lib.hid hbox4
              have hdl := Lib.hid (fun (e : hit = true) => delete_any w.heap.size _ T0.length p (tCells T0 vs) w4 hrow4 (hpT0.out e) (by omega) hone0.out)
              by_cases hnw : c.new.length = 0
              · have hmid : Hid (midT c = []) := Lib.hid (by unfold midT; rw [if_pos (List.eq_nil_of_length_eq_zero hnw)])
                have d1 : decide (0 < (c.new.length : Int)) = false := decide_eq_false (by omega)
                cases hit
                focus
                  obtain ⟨hTe, hve⟩ := hno.out (by first | trivial | rfl)
                  subst hTe
                  subst hve
                  have hrow5 := Lib.hid hrow4
                  have hh5 := hh4
                  have hbox5 := hbx4.out
                  have hY5 := hY4
                  have hb5 := hbW4
                  have hne5 : Hid (∀ g, (Value.slice FA T1.length fc).ownBlock = some g → g ≠ wr.heap.size) := Lib.hid (fun g hg => by have := hneb.out g hg; omega)
                  obtain ⟨w5, hw5⟩ : ∃ w5, w5 = w4 := ⟨_, rfl⟩
                  subst hw5
                  obtain ⟨VA, hVA⟩ : ∃ VA, VA = FA := ⟨_, rfl⟩
                  subst hVA
                  obtain ⟨vc, hvc⟩ : ∃ vc, vc = fc := ⟨_, rfl⟩
                  subst hvc
                  clear hyes hpT0 hdl
                rotate_left
                focus
                  go_wp2_with fail
                  refine (hdl.out (by first | trivial | rfl)).mono ?_
                  rintro e w5 ⟨V, rfl, hrow5, hg5, hown5⟩
                  obtain ⟨hle, hce⟩ := hyes.out (by first | trivial | rfl)
                  rw [← hle, ← hce] at hrow5
                  obtain ⟨VA, vc, rfl, _, _⟩ := own_form hrow5
                  have hbox5 := hbx4.out.grown hg5 (fun e => by have := hneb.out _ e.symm; omega)
                  have hb5 := Lib.hid (hbW4.out.trans (own_below hrow4 hg5 hbW4.out.size))
                  have hY5 := Lib.hid (hY4.out.low (own_below hrow4 hg5 hbW4.out.size))
                  have hh5 := Lib.hid (hheads1.out w5 (fun k b u h1 h2 => (hh4.out k b u h1 h2).keepRow hrow4 (by decide) hg5))
                  have hne5 : Hid (∀ g, (Value.slice VA T1.length vc).ownBlock = some g → g ≠ wr.heap.size) := Lib.hid (fun g hg => by
                    rcases hown5 with h | h
                    · rw [h] at hg; have := hneb.out g hg; omega
                    · have := h g hg; omega)
                  replace hrow5 := Lib.hid hrow5
                  clear hg5 hown5 hle hce hno hpT0 hdl
                all_goals
                  have e2 : w5.cell? ⟨wr.heap.size, 2, none⟩ = some (.slice YA c.new.length yc) := by rw [hbox5.cell]; rfl
                  go_wp2
                  go_roundw
                  case rel =>
                    refine ⟨k + 1, by omega, by go_num, ?_, ?_, hb5.out⟩
                    · rw [hfk.out, hst1.out, hmid.out, List.append_nil, List.take_append_drop]
                      exact ⟨vs1, hv1l.out, hrow5.out, hh5.out⟩
                    · rw [hfk.out]; exact hwn
                  case measure => simp [intOf]; omega
              · have d1 : decide (0 < (c.new.length : Int)) = true := decide_eq_true (by omega)
                have hmid : Hid (midT c = [⟨c.name, c.new⟩]) := Lib.hid (by unfold midT; rw [if_neg (fun e => hnw (by rw [e]; rfl))])
                cases hit
                focus
                  obtain ⟨hTe, hve⟩ := hno.out (by first | trivial | rfl)
                  subst hTe
                  subst hve
                  have hrow5 := Lib.hid hrow4
                  have hh5 := hh4
                  have hbox5 := hbx4.out
                  have hY5 := hY4
                  have hb5 := hbW4
                  have hne5 : Hid (∀ g, (Value.slice FA T1.length fc).ownBlock = some g → g ≠ wr.heap.size) := Lib.hid (fun g hg => by have := hneb.out g hg; omega)
                  obtain ⟨w5, hw5⟩ : ∃ w5, w5 = w4 := ⟨_, rfl⟩
                  subst hw5
                  obtain ⟨VA, hVA⟩ : ∃ VA, VA = FA := ⟨_, rfl⟩
                  subst hVA
                  obtain ⟨vc, hvc⟩ : ∃ vc, vc = fc := ⟨_, rfl⟩
                  subst hvc
                  clear hyes hpT0 hdl
                rotate_left
                focus
                  go_wp2_with fail
                  refine (hdl.out (by first | trivial | rfl)).mono ?_
                  rintro e w5 ⟨V, rfl, hrow5, hg5, hown5⟩
                  obtain ⟨hle, hce⟩ := hyes.out (by first | trivial | rfl)
                  rw [← hle, ← hce] at hrow5
                  obtain ⟨VA, vc, rfl, _, _⟩ := own_form hrow5
                  have hbox5 := hbx4.out.grown hg5 (fun e => by have := hneb.out _ e.symm; omega)
                  have hb5 := Lib.hid (hbW4.out.trans (own_below hrow4 hg5 hbW4.out.size))
                  have hY5 := Lib.hid (hY4.out.low (own_below hrow4 hg5 hbW4.out.size))
                  have hh5 := Lib.hid (hheads1.out w5 (fun k b u h1 h2 => (hh4.out k b u h1 h2).keepRow hrow4 (by decide) hg5))
                  have hne5 : Hid (∀ g, (Value.slice VA T1.length vc).ownBlock = some g → g ≠ wr.heap.size) := Lib.hid (fun g hg => by
                    rcases hown5 with h | h
                    · rw [h] at hg; have := hneb.out g hg; omega
                    · have := h g hg; omega)
                  replace hrow5 := Lib.hid hrow5
                  clear hg5 hown5 hle hce hno hpT0 hdl
                all_goals
                  have e2 : w5.cell? ⟨wr.heap.size, 2, none⟩ = some (.slice YA c.new.length yc) := by rw [hbox5.cell]; rfl
                  have e0 : w5.cell? ⟨wr.heap.size, 0, none⟩ = some (.string ⟨c.name.toArray⟩) := by rw [hbox5.cell]; rfl
                  have hgl5 : wr.heap.size < w5.heap.size := hbox5.lt
                  go_wp2_with fail
                  have hone1 := Lib.hid (tCells_one T1 vs1 hv1l.out hh5.out)
                  have hO5 : Hid (∀ W, Below w5.heap.size w5 W → W.ownsRow w.heap.size 138 2 (.slice VA T1.length vc) T1.length (tCells T1 vs1) ∧ (∀ (k : Nat) b u, T1[k]? = some b → vs1[k]? = some u → HdIs W (DgAt W w.heap.size) u b.heads) ∧ HdIs W (· < w.heap.size) (.slice YA c.new.length yc) c.new ∧ Below w.heap.size w W ∧ W.cell? ⟨wr.heap.size, 0, none⟩ = some (.string ⟨c.name.toArray⟩) ∧ W.cell? ⟨wr.heap.size, 2, none⟩ = some (.slice YA c.new.length yc)) := Lib.hid (fun W hW =>
                    ⟨own_touch (L := []) hrow5.out (Touch.ofBelow hW) (by simp), fun k b u h1 h2 => (hh5.out k b u h1 h2).keepB hW, hY5.out.stayB hW, hb5.out.trans (hW.mono hb5.out.size), (by rw [hW.cell (p := ⟨wr.heap.size, 0, none⟩) hgl5]; exact e0), (by rw [hW.cell (p := ⟨wr.heap.size, 2, none⟩) hgl5]; exact e2)⟩)
                  have hS5 : Hid (∀ W o W4, Below w5.heap.size w5 W → (W.alloc o).grownBy W4 (Value.slice VA T1.length vc).ownBlock → W4.cell? ⟨wr.heap.size, 0, none⟩ = some (.string ⟨c.name.toArray⟩) ∧ W4.cell? ⟨wr.heap.size, 2, none⟩ = some (.slice YA c.new.length yc)) := Lib.hid (fun W o W4 hW hg => by
                    have hlt : wr.heap.size < W.heap.size := Nat.lt_of_lt_of_le hgl5 hW.size
                    have hblk : W4.heap[wr.heap.size]? = W.heap[wr.heap.size]? := (hg.block _ (by simp; omega) (fun e => hne5.out _ e.symm rfl)).trans (Below.heap_alloc W o _ hlt)
                    have e0 : W4.cell? ⟨wr.heap.size, 0, none⟩ = W.cell? ⟨wr.heap.size, 0, none⟩ := World.cell?_of_block hblk
                    have e1 : W4.cell? ⟨wr.heap.size, 2, none⟩ = W.cell? ⟨wr.heap.size, 2, none⟩ := World.cell?_of_block hblk
                    rw [e0, e1]
                    exact (hO5.out W hW).2.2.2.2)
                  have hbd : Below w5.heap.size w5 w5.drew := (Below.refl _ _).drew
                  have hrl : Hid (∀ b, (Value.slice VA T1.length vc).ownBlock = some b → b < w5.heap.size) := Lib.hid (fun b hb => (hrow5.out.lt b hb).2)
                  have hsz5 := hb5.out.size
                  clear hbox5 hrow4 hbox4
                  go_region_held3 (fun w' => w'.cell? ⟨wr.heap.size, 0, none⟩ = some (.string ⟨c.name.toArray⟩) ∧ w'.cell? ⟨wr.heap.size, 2, none⟩ = some (.slice YA c.new.length yc)) (first | exact hS5.out _ _ _ hb3.out hg6.out | exact (hO5.out _ hb3.out).2.2.2.2 | go_keep)
                    (first
                      | (go_at_call 168; (with_reducible refine (clone_any c.new _ _ w5.drew (hO5.out _ hbd).2.2.1 hc1.new).mono ?_); rintro e W3 ⟨cu, rfl, hcu, hb3'⟩; have hb3 := Lib.hid (hbd.trans hb3'); clear hb3'; obtain ⟨CA, ca, rfl, hcc1, hcc2⟩ := id hcu; replace hcu := Lib.hid hcu)
                      | (go_at_call 253; (with_reducible refine (insert_any w.heap.size (.slice VA T1.length vc) T1.length p (tCells T1 vs1) W3.heap.size (.string ⟨c.name.toArray⟩) (.slice CA c.new.length ca) (W3.alloc (.cells #[.string ⟨c.name.toArray⟩, .slice CA c.new.length ca] 138)) ((hO5.out _ hb3.out).1.alloc _) (by omega) hple1 hone1.out (Blk.new_at (cs := [.string ⟨c.name.toArray⟩, .slice CA c.new.length ca]) rfl) rfl rfl (by have := hb3.out.size; simp; omega) (fun e => by have := hrl.out _ e; have := hb3.out.size; omega)).mono ?_); rintro e W6 ⟨V6, rfl, hrow6, hg6, hown6⟩; replace hrow6 := Lib.hid hrow6; replace hg6 := Lib.hid hg6; clear hown6; obtain ⟨VA6, vc6, rfl, _, _⟩ := own_form hrow6.out))
                  have hO6 := Lib.hid (hO5.out _ hb3.out)
                  clear hO5 hS5 hcc2 hbd e0 e2
                  go_wp2
                  go_roundw
                  case rel =>
                    obtain ⟨r3, h3, _, bw3, _⟩ := hO6.out
                    have hba : Below W3.heap.size W3 (W3.alloc (Obj.cells #[Value.string ⟨c.name.toArray⟩, Value.slice CA c.new.length ca] 138)) := (Below.refl _ _).alloc (Nat.le_refl _) _
                    have hro := r3.alloc (Obj.cells #[Value.string ⟨c.name.toArray⟩, Value.slice CA c.new.length ca] 138)
                    refine ⟨k + 1, by omega, by go_num, ?_, by rw [hfk.out]; exact hwn, ?_⟩
                    · rw [hfk.out, hst1.out, hmid.out]
                      refine OwnTab.parts (M := [⟨c.name, c.new⟩]) (ms := [.slice CA c.new.length ca]) hv1l.out rfl hple1 (fun k b u h1 h2 => ((h3 k b u h1 h2).keepB hba).keepRow hro (by decide) hg6.out) (fun k b u h1 h2 => ?_) (n := T1.length + 1) (by simp only [List.length_cons, List.length_nil]; omega) hrow6.out
                      have hk0 : k = 0 := by
                        have := (List.getElem?_eq_some_iff.1 h1).1
                        simp only [List.length_cons, List.length_nil] at this; omega
                      subst hk0
                      simp only [List.getElem?_cons_zero, Option.some.injEq] at h1 h2
                      subst h1; subst h2
                      exact ((hcu.out.lower hsz5).keepB hba).keepRow hro (by decide) hg6.out
                    · exact bw3.trans ((hba.mono bw3.size).trans (own_below hro hg6.out (by have := bw3.size; simp; omega)))
                  case measure => simp [intOf]; omega
            · obtain rfl : k = C.length := by omega
              rw [List.take_length] at hO hway
              have hfold := foldl_step C T ms.out
              rw [hfold] at hO hway
              obtain ⟨FA, fc, rfl, _⟩ := hO.form
              have hpl : (putsT T C).length ≤ 64 := by have := hway.out.len; omega
              by_cases hbig : 32 < (putsT T C).length
              · have hfin : Hid (applyE T C = 4) := Lib.hid (by rw [hAE2.out, if_pos hbig])
                replace hb := Lib.hid hb
                clear hO
                go_wp2
                go_ret2
                exact apply_bad hfin.out (by decide) hb.out rfl
              · have hfin : Hid (applyE T C = 0) := Lib.hid (by rw [hAE2.out, if_neg hbig])
                replace hb := Lib.hid hb
                replace hO := Lib.hid hO
                go_wp2
                go_ret2
                exact ⟨_, two_ret rfl (by rw [hfin.out]; rfl), by unfold applyT; rw [if_pos hfin.out]; exact hO.out, hb.out⟩
  · rw [if_neg hm] at hAE
    obtain ⟨x, hx⟩ : ∃ x, x = mayE T := ⟨_, rfl⟩
    rw [← hx] at hmay hm hAE
    have g1 : (x != 0) = true := by simpa using hm
    replace hAE := Lib.hid hAE
    replace hm := Lib.hid hm
    clear hx h h' hf hc
    go_enter Tryz.func178, Tryz.ntmps178
    go_wp2_with fail
    refine hmay.out.mono ?_
    rintro e w1 ⟨rfl, hb1⟩
    replace hb1 := Lib.hid hb1
    go_wp2
    go_ret2
    exact apply_bad hAE.out hm.out hb1.out rfl
end Go.Proofs.YtamdhaoglapnnaaGreatDoor
end
end
