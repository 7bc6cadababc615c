/- Joined: RfI, RfJ. -/
import Derived.Test.YtlenmkemjaaaoaaDoorRfF
import Derived.Shelf.Abstract
section
/- The walks of at and of the library's binary search. -/
namespace Go.Proofs.YtlenmkemjaaaoaaDoor
open Go.RowKit

def cmpS (a b : Str) : Int := if lessS a b then -1 else if a = b then 0 else 1
theorem cmp_eq : ∀ (a b : Str), Lib.compareBytes a b = cmpS a b
  | [], [] => rfl
  | [], _ :: _ => rfl
  | _ :: _, [] => rfl
  | x :: a, y :: b => by
    have ih := cmp_eq a b
    unfold cmpS at ih ⊢
    rw [lessS_cons]
    unfold Lib.compareBytes
    by_cases h1 : x < y
    · simp [h1]
    · by_cases h2 : y < x
      · have : x ≠ y := fun e => by subst e; exact h1 h2
        simp [h1, h2, this]
      · have : x = y := by
          rw [UInt8.lt_iff_toNat_lt] at h1 h2
          exact UInt8.toNat_inj.1 (by omega)
        subst this
        simp [h1, ih]
theorem cmp_any (a b : Str) (w : World) : Calls Tryd.prog 79 #[.string ⟨a.toArray⟩, .string ⟨b.toArray⟩] w fun e w' => e = .returned (.int .i64 (cmpS a b)) ∧ w = w' := by
  have h := Tryd.strings_Compare ⟨a.toArray⟩ ⟨b.toArray⟩ w
  exact h.mono fun e w' ⟨h1, h2⟩ => ⟨by rw [h1, ← cmp_eq], h2.symm⟩
set_option maxRecDepth 100000 in
set_option maxHeartbeats 1000000 in
theorem atc_any (n s : Str) (u : Value) (w : World) :
    Calls Tryd.prog 78 #[.agg #[strV n, u], strV s] w fun e w' => e = .returned (.int .i64 (cmpS n s)) ∧ Below w.heap.size w w' := by
  have hc := Lib.hid (cmp_any n s)
  have hB : Blk (w.alloc (.cells #[strV n, u] 61)) w.heap.size 61 [strV n, u] := Blk.new_at (cs := [strV n, u]) rfl
  have c0 : (w.alloc (.cells #[strV n, u] 61)).cell? ⟨w.heap.size, 0, none⟩ = some (.string ⟨n.toArray⟩) := by rw [hB.cell]; rfl
  have hb : Below w.heap.size w (w.alloc (.cells #[strV n, u] 61)) := (Below.refl _ _).alloc (Nat.le_refl _) _
  clear hB
  unfold strV at c0 hb ⊢
  replace hb := Lib.hid hb
  go_enter Tryd.func78, Tryd.ntmps78
  go_wp2_with ((go_at_call 79; refine (hc.out _).mono ?_; rintro e w' ⟨rfl, rfl⟩))
  go_ret
  exact ⟨rfl, hb.out⟩

/-! ### places in a sorted table -/
theorem sorted_lt {T : Tab} (h : sorted T) {i j : Nat} (hij : i < j) (hj : j < T.length) : lessS (T[i]'(by omega)).name T[j].name = true := by
  exact (List.pairwise_iff_getElem.1 h) i j (by omega) hj hij
theorem posT_le (T : Tab) (n : Str) : posT T n ≤ T.length := by
  unfold posT
  induction T with
  | nil => simp
  | cons b r ih =>
    rw [List.takeWhile_cons]
    split
    · simp only [List.length_cons]; omega
    · simp
theorem posT_of : ∀ {T : Tab} {n : Str} {p : Nat}, p ≤ T.length → (∀ x (h : x < T.length), x < p → lessS T[x].name n = true) → (∀ h : p < T.length, lessS T[p].name n = false) → posT T n = p
  | [], _, p, hp, _, _ => by simp at hp; subst hp; rfl
  | b :: r, n, 0, _, _, h2 => by
    have := h2 (by simp)
    simp only [posT, List.takeWhile_cons]
    have e : lessS b.name n = false := by simpa using this
    rw [e]
    rfl
  | b :: r, n, p + 1, hp, h1, h2 => by
    have e : lessS b.name n = true := by have := h1 0 (by simp) (by omega); simpa using this
    have ih : posT r n = p := posT_of (by simpa using hp) (fun x hx hxp => by have := h1 (x + 1) (by simpa using hx) (by omega); simpa using this) (fun h => by have := h2 (by simpa using h); simpa using this)
    unfold posT at ih ⊢
    rw [List.takeWhile_cons, if_pos e, List.length_cons, ih]
def hitT (T : Tab) (n : Str) : Bool := match T[posT T n]? with | some b => decide (b.name = n) | none => false
theorem less_of_ge {a b n : Str} (h : lessS a b = true) (hn : lessS a n = false) : lessS b n = false := by
  cases hb : lessS b n with
  | false => rfl
  | true => rw [lessS_trans _ _ _ h hb] at hn; cases hn
theorem cmp_neg (a b : Str) : decide (cmpS a b < 0) = lessS a b := by
  unfold cmpS
  cases lessS a b
  · simp only [Bool.false_eq_true, if_false]
    split <;> rfl
  · rfl
theorem cmp_zero (a b : Str) : (cmpS a b == 0) = decide (a = b) := by
  unfold cmpS
  cases h : lessS a b with
  | true =>
    have := lessS_ne h
    simp [this]
  | false =>
    simp only [Bool.false_eq_true, if_false]
    split
    · rename_i e; simp [e]
    · rename_i e; simp [e]
set_option maxRecDepth 100000 in
set_option maxHeartbeats 4000000 in
theorem bsf_any (T : Tab) (v : Value) (s : Str) (ok : Nat → Prop) (w : World) (h : TabIs w ok v T) (hf : T.length ≤ 3518437208832) (hs : sorted T) :
    Calls Tryd.prog 77 #[v, strV s, .func (.func 78) #[] #[]] w fun e w' => e = .returned (.tuple #[.int .i64 (posT T s), .bool (hitT T s)]) ∧ Below w.heap.size w w' := by
  obtain ⟨A, c, rfl, hc⟩ := h.form
  have hT := Lib.hid h.ltB
  replace hs := Lib.hid hs
  have hcall := Lib.hid (fun n u W => atc_any n s u W)
  clear h hc
  unfold strV
  unfold strV at hcall
  go_enter Tryd.func77, Tryd.ntmps77
  go_wp2
  go_loopw [9, 10] (fun i j wr => ∃ a b : Nat, a ≤ b ∧ b ≤ T.length ∧ i = .int .i64 a ∧ j = .int .i64 b ∧ Hid ((∀ x (h : x < T.length), x < a → lessS T[x].name s = true) ∧ (∀ x (h : x < T.length), b ≤ x → lessS T[x].name s = false)) ∧ Below w.heap.size w wr) (fun i j _ => (intOf j).toNat - (intOf i).toNat)
  case atStart => exact ⟨0, T.length, Nat.zero_le _, Nat.le_refl _, rfl, rfl, Lib.hid ⟨fun x _ hx => by omega, fun x hx hx2 => by omega⟩, Below.refl _ _⟩
  case round =>
    obtain ⟨a, b, hab, hbl, rfl, rfl, hrng, hb⟩ := hrel
    by_cases hlt : a < b
    · obtain ⟨m, hm⟩ : ∃ m, m = (a + b) / 2 := ⟨_, rfl⟩
      have hm1 : a ≤ m := by omega
      have hm2 : m < b := by omega
      have hml : m < T.length := by omega
      obtain ⟨g, o, u, rfl, hgl, _, _, c0, c1⟩ := (hT.out.low hb).br m hml
      have hcells := Lib.hid (two_cells c0 c1)
      have hcmp := cmp_neg T[m].name s
      have hlo : Hid (lessS T[m].name s = true → ∀ x (h : x < T.length), x < m + 1 → lessS T[x].name s = true) := Lib.hid (fun e x hx hxm => by
        by_cases he : x = m
        · subst he; exact e
        · exact lessS_trans _ _ _ (sorted_lt hs.out (show x < m by omega) hml) e)
      have hhi : Hid (lessS T[m].name s = false → ∀ x (h : x < T.length), m ≤ x → lessS T[x].name s = false) := Lib.hid (fun e x hx hxm => by
        by_cases he : x = m
        · subst he; exact e
        · exact less_of_ge (sorted_lt hs.out (show m < x by omega) hx) e)
      have hca := Lib.hid (hcall.out T[m].name u)
      obtain ⟨n, hn⟩ : ∃ n, n = T[m].name := ⟨_, rfl⟩
      rw [← hn] at hcells hcmp hlo hhi hca
      clear hn c0 c1
      obtain ⟨z, hz⟩ : ∃ z, z = cmpS n s := ⟨_, rfl⟩
      obtain ⟨t, ht⟩ : ∃ t, t = lessS n s := ⟨_, rfl⟩
      rw [← hz] at hcmp hca
      rw [← ht] at hcmp hlo hhi
      clear hz ht
      have e1 : IntKind.i64.wrap ((a : Int) + (b : Int)) = (a : Int) + (b : Int) := IntWalk.i64_in _ (by omega)
      have e2 : ((a : Int) + (b : Int)) / 2 = (m : Int) := by omega
      have i1 : (0 : Int) ≤ (m : Int) := by omega
      have i2 : (m : Int) < (T.length : Int) := by omega
      replace hm := Lib.hid hm
      go_wp2_with (first
        | (refine wpList_load_at 61 (.tmp 27) rfl rfl g (o + m * 2) rfl [.string ⟨n.toArray⟩, u] hcells.out _ Tryd.underlying61 rfl brSz ?_; go_frame))
      refine (hca.out _).mono ?_
      rintro e w2 ⟨rfl, hb2⟩
      have hb3 := hb.trans (hb2.mono hb.size)
      clear hb2
      cases t with
      | true =>
        go_wp2
        go_roundw
        case rel => exact ⟨m + 1, b, by omega, hbl, by go_num, rfl, Lib.hid ⟨hlo.out (by simp), hrng.out.2⟩, hb3⟩
        case measure => simp [intOf]; omega
      | false =>
        go_wp2
        go_roundw
        case rel => exact ⟨a, m, hm1, by omega, rfl, rfl, Lib.hid ⟨hrng.out.1, hhi.out (by simp)⟩, hb3⟩
        case measure => simp [intOf]; omega
    · obtain rfl : a = b := by omega
      have hp : Hid (posT T s = a) := Lib.hid (posT_of hbl hrng.out.1 (fun h => hrng.out.2 a h (Nat.le_refl _)))
      clear hab
      by_cases hin : a < T.length
      · obtain ⟨g, o, u, rfl, hgl, _, _, c0, c1⟩ := (hT.out.low hb).br a hin
        have hcells := Lib.hid (two_cells c0 c1)
        have hcmp := cmp_zero T[a].name s
        have hhit : Hid (hitT T s = decide (T[a].name = s)) := Lib.hid (by unfold hitT; rw [hp.out, List.getElem?_eq_getElem hin])
        have hca := Lib.hid (hcall.out T[a].name u)
        obtain ⟨n, hn⟩ : ∃ n, n = T[a].name := ⟨_, rfl⟩
        rw [← hn] at hcells hcmp hca hhit
        clear hn c0 c1
        obtain ⟨z, hz⟩ : ∃ z, z = cmpS n s := ⟨_, rfl⟩
        obtain ⟨t, ht⟩ : ∃ t, t = decide (n = s) := ⟨_, rfl⟩
        rw [← hz] at hcmp hca
        rw [← ht] at hcmp hhit
        clear hz ht
        have i1 : (0 : Int) ≤ (a : Int) := by omega
        have i2 : (a : Int) < (T.length : Int) := by omega
        have d1 : decide ((a : Int) < (T.length : Int)) = true := by simpa using hin
        go_wp2_with (first
          | (refine wpList_load_at 61 (.tmp 43) rfl rfl g (o + a * 2) rfl [.string ⟨n.toArray⟩, u] hcells.out _ Tryd.underlying61 rfl brSz ?_; go_frame))
        refine (hca.out _).mono ?_
        rintro e w2 ⟨rfl, hb2⟩
        have hb3 := hb.trans (hb2.mono hb.size)
        clear hb2
        go_wp2
        go_ret2
        exact ⟨two_ret (by rw [hp.out]; rfl) (by rw [hhit.out]; rfl), hb3⟩
      · have hhit : Hid (hitT T s = false) := Lib.hid (by unfold hitT; rw [hp.out, List.getElem?_eq_none (by omega)])
        have d1 : decide ((a : Int) < (T.length : Int)) = false := decide_eq_false (by omega)
        go_wp2
        go_ret2
        exact ⟨two_ret (by rw [hp.out]; rfl) (by rw [hhit.out]; rfl), hb⟩
end Go.Proofs.YtlenmkemjaaaoaaDoor
end

section
/- The walks of at, stands, and of what is wrong with a change. -/
namespace Go.Proofs.YtlenmkemjaaaoaaDoor
open Go.RowKit

theorem posT_lt {T : Tab} {n : Str} : ∀ x (h : x < T.length), x < posT T n → lessS T[x].name n = true := by
  intro x h hx
  unfold posT at hx
  induction T generalizing x with
  | nil => simp at h
  | cons b r ih =>
    rw [List.takeWhile_cons] at hx
    split at hx
    · rename_i hb
      cases x with
      | zero => exact hb
      | succ x => exact ih x (by simpa using h) (by simpa using hx)
    · simp at hx
theorem posT_ge {T : Tab} {n : Str} (h : posT T n < T.length) : lessS T[posT T n].name n = false := by
  induction T with
  | nil => simp at h
  | cons b r ih =>
    by_cases hb : lessS b.name n = true
    · have e : posT (b :: r) n = posT r n + 1 := by unfold posT; rw [List.takeWhile_cons, if_pos hb, List.length_cons]
      have h' : posT r n < r.length := by rw [e] at h; simpa using h
      have := ih h'
      simpa [e] using this
    · have e : posT (b :: r) n = 0 := by unfold posT; rw [List.takeWhile_cons, if_neg hb]; rfl
      have : lessS b.name n = false := by simpa using hb
      simpa [e] using this
theorem getT_hit {T : Tab} (hs : sorted T) (n : Str) : getT T n = match T[posT T n]? with | some b => if b.name = n then b.heads else [] | none => [] := by
  have hle := posT_le T n
  have hlt := @posT_lt T n
  have hno : ∀ x (h : x < T.length), x ≠ posT T n → T[x].name ≠ n := by
    intro x h hx e
    rcases Nat.lt_or_ge x (posT T n) with h1 | h1
    · have := hlt x h h1; rw [e, lessS_irr] at this; cases this
    · have hp : posT T n < T.length := by omega
      have g1 := posT_ge hp
      have g2 := sorted_lt hs (show posT T n < x by omega) h
      rw [e] at g2
      rw [g1] at g2; cases g2
  unfold getT
  cases hf : T.find? (fun b => b.name == n) with
  | none =>
    rw [List.find?_eq_none] at hf
    cases hp : T[posT T n]? with
    | none => rfl
    | some b =>
      have hm := List.mem_of_getElem? hp
      have := hf b hm
      simp only [beq_iff_eq] at this
      simp [this]
  | some b =>
    have hm := List.mem_of_find?_eq_some hf
    have he : b.name = n := by have := List.find?_some hf; simpa using this
    obtain ⟨x, hx, rfl⟩ := List.mem_iff_getElem.1 hm
    have hxp : x = posT T n := by
      rcases Nat.decEq x (posT T n) with h1 | h1
      · exact absurd he (hno x hx h1)
      · exact h1
    subst hxp
    simp [hx, he]
set_option maxRecDepth 100000 in
set_option maxHeartbeats 1000000 in
theorem at_any (T : Tab) (v : Value) (s : Str) (ok : Nat → Prop) (w : World) (h : TabIs w ok v T) (hf : T.length ≤ 3518437208832) (hs : sorted T) :
    Calls Tryd.prog 49 #[v, strV s] w fun e w' => e = .returned (.tuple #[.int .i64 (posT T s), .bool (hitT T s)]) ∧ Below w.heap.size w w' := by
  have hb := Lib.hid (bsf_any T v s ok w h hf hs)
  obtain ⟨A, c, rfl, hc⟩ := h.form
  clear h hs hc
  unfold strV at hb ⊢
  go_enter Tryd.func49, Tryd.ntmps49
  go_wp2_with fail
  refine hb.out.mono ?_
  rintro e w' ⟨rfl, hb2⟩
  go_wp2
  go_ret2
  exact ⟨rfl, hb2⟩
set_option maxRecDepth 100000 in
set_option maxHeartbeats 2000000 in
/-- What a name stands for: one value, in whatever world over this one. -/
theorem stands_any (T : Tab) (v : Value) (s : Str) (ok : Nat → Prop) (w : World) (h : TabIs w ok v T) (hf : T.length ≤ 3518437208832) (hs : sorted T) :
    ∃ u, HdIs w ok u (getT T s) ∧ ∀ W, Below w.heap.size w W → Calls Tryd.prog 64 #[v, strV s] W fun e w' => e = .returned u ∧ Below W.heap.size W w' := by
  have hb := fun W (hW : Below w.heap.size w W) => at_any T v s ok W (h.stayB hW) hf hs
  have hg := getT_hit hs s
  have hle := posT_le T s
  obtain ⟨A, c, rfl, hc⟩ := h.form
  clear hs hc
  by_cases hp : posT T s < T.length
  · obtain ⟨b, o, u, rfl, _, hbl, hU, c0, c1⟩ := h.br (posT T s) hp
    rw [List.getElem?_eq_getElem hp] at hg
    have hh : hitT T s = decide (T[posT T s].name = s) := by unfold hitT; rw [List.getElem?_eq_getElem hp]
    by_cases he : T[posT T s].name = s
    · rw [decide_eq_true he] at hh
      have hg' : Hid (getT T s = T[posT T s].heads) := Lib.hid (by rw [hg]; simp [he])
      rw [← hg'.out] at hU
      rw [hh] at hb
      obtain ⟨p, hpp⟩ : ∃ p, p = posT T s := ⟨_, rfl⟩
      rw [← hpp] at hb hp c1
      obtain ⟨UA, uc, rfl, huc, _⟩ := id hU
      refine ⟨_, hU, fun W hW => ?_⟩
      replace hU := Lib.hid hU
      replace hb := Lib.hid (hb W hW)
      have c3 : W.cell? ⟨b, o + p * 2 + 1, none⟩ = some (.slice UA (getT T s).length uc) := by rw [hW.cell (p := ⟨b, _, none⟩) hbl]; exact c1
      have hbW : b < W.heap.size := Nat.lt_of_lt_of_le hbl hW.size
      have i1 : (0 : Int) ≤ (p : Int) := by omega
      have i2 : (p : Int) < (T.length : Int) := by omega
      clear hg hh he c0 h hle hpp hg' c1 hW
      unfold strV at hb ⊢
      go_enter Tryd.func64, Tryd.ntmps64
      go_wp2_with fail
      refine hb.out.mono ?_
      rintro e w' ⟨rfl, hb2⟩
      have c2 : w'.cell? ⟨b, o + p * 2 + 1, none⟩ = some (.slice UA (getT T s).length uc) := by rw [hb2.cell (p := ⟨b, _, none⟩) hbW]; exact c3
      replace hb2 := Lib.hid hb2
      clear c3
      go_wp2
      go_ret
      exact ⟨rfl, hb2.out⟩
    · rw [decide_eq_false he] at hh
      have hg' : getT T s = [] := by rw [hg]; simp [he]
      rw [hh] at hb
      refine ⟨.slice none 0 0, by rw [hg']; exact HdIs.nil, fun W hW => ?_⟩
      replace hb := Lib.hid (hb W hW)
      clear hg hh he c0 c1 h hle hU hg' hW
      unfold strV at hb ⊢
      go_enter Tryd.func64, Tryd.ntmps64
      go_wp2_with fail
      refine hb.out.mono ?_
      rintro e w' ⟨rfl, hb2⟩
      replace hb2 := Lib.hid hb2
      go_wp2
      go_ret
      exact ⟨rfl, hb2.out⟩
  · have hn : T[posT T s]? = none := List.getElem?_eq_none (by omega)
    have hh : hitT T s = false := by unfold hitT; rw [hn]
    rw [hn] at hg
    rw [hh] at hb
    refine ⟨.slice none 0 0, by rw [hg]; exact HdIs.nil, fun W hW => ?_⟩
    replace hb := Lib.hid (hb W hW)
    clear hh h hle hn hg hW
    unfold strV at hb ⊢
    go_enter Tryd.func64, Tryd.ntmps64
    go_wp2_with fail
    refine hb.out.mono ?_
    rintro e w' ⟨rfl, hb2⟩
    replace hb2 := Lib.hid hb2
    go_wp2
    go_ret
    exact ⟨rfl, hb2.out⟩
end Go.Proofs.YtlenmkemjaaaoaaDoor
end
