/- The walk of the law's own: changes in memory of their own. -/
import Derived.Test.YtlenmkemjaaaoaaDoorRs
namespace Go.Proofs.YtlenmkemjaaaoaaDoor
open Go.RowKit

theorem chInfo : InfoOf Tryd.prog 46 (.agg zeroCh.toArray) 3 64 := ⟨by kernel_rfl, rfl, by omega⟩
theorem Below.al {w W : World} (h : Below w.heap.size w W) (o : Obj) : Below w.heap.size w (W.alloc o) := h.alloc h.size o
theorem below_none {w w' : World} (h : w.grownBy w' none) : Below w.heap.size w w' := ⟨h.os, h.tape, h.output, h.size, fun k hk => h.block k hk (by simp)⟩
/-- Appended to a slice without room: nothing that was there is turned. -/
theorem step_append_empty (w : World) {ops : Array Oper} {o : Oper} {a : Act} {K : Act → World → Prop} {Q : Exit → Act → World → Prop} {E : Prop} (hgd : o.guard = none) (s x : Operand)
    (ho : o.op = .call { callee := .builtin .append, args := #[s, x], argTypes := #[44, 44] }) (g : Nat) (hs : a.eval s = .slice (some ⟨g, 0, none⟩) 0 0)
    (xv : Value) (hx : a.eval x = xv) (l : List Str) (ok : Nat → Prop) (hX : HdIs w ok xv l) (hf : HFit l) (base : Nat) (hbase : base ≤ w.heap.size)
    (h : ∀ A c w', HdIs w' (DgAt w' base) (.slice A l.length c) l → Below w.heap.size w w' → K (a.put o.dst (.slice A l.length c)) w') :
    if Region.wanted o (yielded ops a.tmps) = true then Oper.wp Tryd.prog o a w K Q else E := by
  have hw : Region.wanted o (yielded ops a.tmps) = true := by simp [Region.wanted, hgd]
  rw [if_pos hw]
  obtain ⟨A, c, rfl, hc, hr⟩ := hX
  have hrun : ∃ A' c' w', (Builtin.append_ #[44, 44] o.type #[.slice (some ⟨g, 0, none⟩) 0 0, .slice A l.length c]).run Tryd.prog w = .ok (.slice A' l.length c') w' ∧ HdIs w' (DgAt w' base) (.slice A' l.length c') l ∧ Below w.heap.size w w' := by
    obtain ⟨i, hi, hz, hsize, hby⟩ : ∃ i, Tryd.prog.info? 57 = some i ∧ i.zero = some (.agg zero32.toArray) ∧ i.size = 32 ∧ i.bytes = 32 := by
      have h := digInfo.info
      cases hq : Tryd.prog.info? 57 with
      | none => simp [hq] at h
      | some i =>
        simp only [hq, Option.map_some, Option.some.injEq, Prod.mk.injEq] at h
        exact ⟨i, rfl, h.1, h.2.1, h.2.2⟩
    by_cases h0 : l = []
    · subst h0
      refine ⟨some ⟨g, 0, none⟩, 0, w, ?_, ⟨_, _, rfl, Nat.le_refl _, Rd.nil⟩, Below.refl _ _⟩
      cases A <;> simp [Builtin.append_, run_underlying Tryd.underlying44, sizeOf, typeInfo, hi, Builtin.lenOf, Builtin.firstCells, storeCells, loadCells, loadCellsFrom]
    · have hlen : 0 < l.length := by cases l with | nil => exact absurd rfl h0 | cons a r => simp
      have hcl := hCells_len hf.ok
      obtain ⟨b, o', rfl, _, _, hcell⟩ := hr.at (by rw [hcl]; omega)
      have hl := hf.len
      obtain ⟨v', w', hrun, hown, hg⟩ := run_append_arg_grows (P := Tryd.prog) w 44 o.type 57 i (.agg zero32.toArray) 32 32 Tryd.underlying44 hi hz hsize hby digInfo.cells (by omega) ⟨g, 0, none⟩ 0 0 [] rfl (by simp) ⟨b, o', none⟩ l.length c (hCells l) hcl (fun j u hu => by rw [addr_add]; exact hcell j u hu) (by omega) (by unfold maxLen; omega) (by omega)
      rw [Nat.zero_add, List.nil_append] at hown
      obtain ⟨A', c', rfl, _, _⟩ := own_form hown
      exact ⟨A', c', w', hrun, (hd_of_own hown).lower hbase, below_none hg⟩
  obtain ⟨A', c', w', hr1, hr2, hr3⟩ := hrun
  unfold Oper.wp execOp
  simp only [ho, resolve, invoke, builtin, Sem.run_bind, Sem.run_pure, Result.andThen_ok, List.map_toArray, List.map_cons, List.map_nil, hs, hx, hr1]
  exact h A' c' w' hr2 hr3
theorem Below.al1 (w : World) (o : Obj) : Below w.heap.size w (w.alloc o).drew := (Below.al (Below.refl _ _) o).drew
theorem Below.al2 (w : World) (o o' : Obj) : Below w.heap.size w ((w.alloc o).alloc o').drew := (Below.al (Below.al (Below.refl _ _) o) o').drew
theorem Below.step {w W W' : World} (h : Below w.heap.size w W) (h' : Below W.heap.size W W') : Below w.heap.size w W' := h.trans (h'.mono h.size)
/-- Changes in memory of their own, from base on. -/
def OwnChs (w : World) (base : Nat) (v : Value) (C : List Chg) : Prop := ∃ vs : List (Value × Value), vs.length = C.length ∧ w.ownsRow base 46 3 v C.length (cCells C vs) ∧ ∀ (k : Nat) b u, C[k]? = some b → vs[k]? = some u → HdIs w (DgAt w base) u.1 b.old ∧ HdIs w (DgAt w base) u.2 b.new
theorem OwnChs.nil {w : World} {base : Nat} : OwnChs w base (.slice none 0 0) [] := ⟨[], rfl, ⟨rfl, .inl ⟨rfl, rfl⟩⟩, fun k b u h _ => by simp at h⟩
theorem OwnChs.form {w : World} {base : Nat} {v : Value} {C : List Chg} (h : OwnChs w base v C) : ∃ A c, v = .slice A C.length c ∧ C.length ≤ c := by
  obtain ⟨vs, _, ho, _⟩ := h
  obtain ⟨A, c, e, hc, _⟩ := own_form ho
  exact ⟨A, c, e, hc⟩
theorem OwnChs.keepB {w w' : World} {base : Nat} {v : Value} {C : List Chg} (h : OwnChs w base v C) (hb : Below w.heap.size w w') : OwnChs w' base v C := by
  obtain ⟨vs, hl, ho, hh⟩ := h
  exact ⟨vs, hl, own_touch (L := []) ho (Touch.ofBelow hb) (by simp), fun k b u h1 h2 => ⟨(hh k b u h1 h2).1.keepB hb, (hh k b u h1 h2).2.keepB hb⟩⟩
theorem OwnChs.snoc {w' : World} {base : Nat} {v' : Value} {C : List Chg} {vs : List (Value × Value)} {b : Chg} {u : Value × Value} (hl : vs.length = C.length) (hh : ∀ (k : Nat) b u, C[k]? = some b → vs[k]? = some u → HdIs w' (DgAt w' base) u.1 b.old ∧ HdIs w' (DgAt w' base) u.2 b.new)
    (hu : HdIs w' (DgAt w' base) u.1 b.old ∧ HdIs w' (DgAt w' base) u.2 b.new) (hrow : w'.ownsRow base 46 3 v' (C.length + 1) (cCells C vs ++ [strV b.name, u.1, u.2])) : OwnChs w' base v' (C ++ [b]) := by
  refine ⟨vs ++ [u], by simp [hl], by rw [cCells_app C vs hl]; simpa [cCells] using hrow, (zip_all _ _).2 (fun q hq => ?_)⟩
  rw [List.zip_append hl.symm] at hq
  rcases List.mem_append.1 hq with hq | hq
  · exact (zip_all C vs).1 hh q hq
  · simp only [List.zip_cons_cons, List.zip_nil_left, List.mem_singleton] at hq
    subst hq
    exact hu
theorem take_at' {α : Type} {l : List α} {k : Nat} (h : k < l.length) : l.take (k + 1) = l.take k ++ [l[k]] := take_at h
def LOwnTo (w : World) (C : List Chg) (e : Ending) (w' : World) : Prop := ∃ v, e = .returned v ∧ OwnChs w' w.heap.size v C ∧ Below w.heap.size w w'
set_option maxRecDepth 100000 in
set_option maxHeartbeats 8000000 in
theorem lown_any (C : List Chg) (v : Value) (ok : Nat → Prop) (w : World) (h : ChsIs w ok v C) (hf : CFit C) :
    Calls Tryd.prog 20 #[v] w (LOwnTo w C) := by
  obtain ⟨A, c, rfl, hc⟩ := h.form
  have hCh := Lib.hid h.ltB
  have hlen := hf.len
  have hok := Lib.hid hf.ok
  clear h hf hc
  go_enter Tryd.func20, Tryd.ntmps20
  go_wp2
  go_loopw [7, 3] (fun i v wr => ∃ k : Nat, k ≤ C.length ∧ i = .int .i64 k ∧ OwnChs wr w.heap.size v (C.take k) ∧ Below w.heap.size w wr) (fun i _ _ => C.length - (intOf i).toNat)
  case atStart => exact ⟨0, Nat.zero_le _, rfl, OwnChs.nil, Below.refl _ _⟩
  case round =>
    obtain ⟨k, hk, rfl, hO, hb⟩ := hrel
    by_cases hlt : k < C.length
    · obtain ⟨b, o, x, y, rfl, hb0, hbl, hX, hY, hcells⟩ := (hCh.out.low hb).ch k hlt
      have hcf := hok.out C[k] (List.getElem_mem hlt)
      have htk : Hid (C.take (k + 1) = C.take k ++ [C[k]]) := Lib.hid (take_at' hlt)
      have hkl : (C.take k).length = k := by rw [List.length_take]; omega
      obtain ⟨cc, hcc⟩ : ∃ cc, cc = C[k] := ⟨_, rfl⟩
      rw [← hcc] at hX hY hcells hcf htk
      obtain ⟨P, hP⟩ : ∃ P, P = C.take k := ⟨_, rfl⟩
      rw [← hP] at hO htk hkl
      clear hcc hP
      obtain ⟨n, os, ns⟩ := cc
      have hfo := Lib.hid hcf.old
      have hfn := Lib.hid hcf.new
      have hnl := hcf.name
      dsimp only at hX hY hcells hfo hfn hnl
      obtain ⟨XA, xc, rfl, _, _⟩ := id hX
      obtain ⟨YA, yc, rfl, _, _⟩ := id hY
      obtain ⟨c0, c1, c2⟩ := three_cells hcells
      unfold strV at c0
      have hbx : Hid (b < wr.heap.size) := Lib.hid hbl
      have hXW := Lib.hid (fun W (hW : Below wr.heap.size wr W) => hX.stayB hW)
      have hYW := Lib.hid (fun W (hW : Below wr.heap.size wr W) => hY.stayB hW)
      have hSW : Hid (∀ W, Below wr.heap.size wr W → W.cell? ⟨b, o + k * 3, none⟩ = some (.string ⟨n.toArray⟩) ∧ W.cell? ⟨b, o + k * 3 + 1, none⟩ = some (.slice XA os.length xc) ∧ W.cell? ⟨b, o + k * 3 + 2, none⟩ = some (.slice YA ns.length yc)) := Lib.hid (fun W hW =>
        ⟨by rw [hW.cell (p := ⟨b, o + k * 3, none⟩) hbl]; exact c0, by rw [hW.cell (p := ⟨b, o + k * 3 + 1, none⟩) hbl]; exact c1, by rw [hW.cell (p := ⟨b, o + k * 3 + 2, none⟩) hbl]; exact c2⟩)
      have i1 : (0 : Int) ≤ (k : Int) := by omega
      have i2 : (k : Int) < (C.length : Int) := by omega
      obtain ⟨vs, hvl, hrow, hheads⟩ := hO
      obtain ⟨FA, fc, rfl, _, _⟩ := own_form hrow
      have hrl : Hid (∀ g, (Value.slice FA P.length fc).ownBlock = some g → g < wr.heap.size ∧ w.heap.size ≤ g) := Lib.hid (fun g hg => ⟨(hrow.lt g hg).2, (hrow.lt g hg).1⟩)
      have hne : Hid (∀ g, (Value.slice FA P.length fc).ownBlock = some g → g ≠ b) := Lib.hid (fun g hg e => by
        have h1 := (hrow.lt g hg).1
        omega)
      rw [hkl] at hrow hne hrl ⊢
      have hRW := Lib.hid (fun W (hW : Below wr.heap.size wr W) => own_touch (L := []) hrow (Touch.ofBelow hW) (by simp))
      have hHW := Lib.hid (fun W (hW : Below wr.heap.size wr W) (k : Nat) b u (h1 : P[k]? = some b) (h2 : vs[k]? = some u) => (⟨(hheads k b u h1 h2).1.keepB hW, (hheads k b u h1 h2).2.keepB hW⟩ : HdIs W (DgAt W w.heap.size) u.1 b.old ∧ HdIs W (DgAt W w.heap.size) u.2 b.new))
      have hSR : Hid (∀ W o' W4, Below wr.heap.size wr W → (W.alloc o').grownBy W4 (Value.slice FA k fc).ownBlock → W4.cell? ⟨b, o + k * 3, none⟩ = some (.string ⟨n.toArray⟩) ∧ W4.cell? ⟨b, o + k * 3 + 1, none⟩ = some (.slice XA os.length xc) ∧ W4.cell? ⟨b, o + k * 3 + 2, none⟩ = some (.slice YA ns.length yc)) := Lib.hid (fun W o' W4 hW hg => by
        have hlt : b < W.heap.size := Nat.lt_of_lt_of_le hbl hW.size
        have hblk : W4.heap[b]? = W.heap[b]? := (hg.block _ (by simp; omega) (fun e => hne.out _ e.symm rfl)).trans (Below.heap_alloc W o' _ hlt)
        rw [World.cell?_of_block (a := ⟨b, o + k * 3, none⟩) hblk, World.cell?_of_block (a := ⟨b, o + k * 3 + 1, none⟩) hblk, World.cell?_of_block (a := ⟨b, o + k * 3 + 2, none⟩) hblk]
        exact hSW.out W hW)
      have hbd : Hid (Below wr.heap.size wr wr.drew) := Lib.hid (Below.refl _ _).drew
      have hsz := hb.size
      replace hb := Lib.hid hb
      replace hvl := Lib.hid hvl
      clear hcf hrow hheads hX hY hcells
      go_wp2
      go_region_held3 (fun w' => w'.cell? ⟨b, o + k * 3, none⟩ = some (.string ⟨n.toArray⟩) ∧ w'.cell? ⟨b, o + k * 3 + 1, none⟩ = some (.slice XA os.length xc) ∧ w'.cell? ⟨b, o + k * 3 + 2, none⟩ = some (.slice YA ns.length yc)) (first | exact hSR.out _ _ _ hb22.out hg4.out | exact hSR.out _ _ _ hb29.out hg4.out | exact hSW.out _ hb22.out | exact hSW.out _ hb29.out | exact hSW.out _ (Below.al hb22.out _) | exact hSW.out _ (Below.al hb29.out _) | exact hSW.out _ (Below.al1 wr _) | exact hSW.out _ (Below.al2 wr _ _) | exact hSW.out _ hbd.out | go_keep)
        (first
          | (refine step_append_empty _ rfl (.tmp 16) (.tmp 21) rfl _ rfl (.slice XA os.length xc) rfl os _ (hXW.out _ hb29.out) hfo.out w.heap.size (Nat.le_trans hsz (Below.size hb29.out)) ?_; intro A22 c22 W22 hH22 hB22; have hb22 := Lib.hid (Below.step hb29.out hB22); have hO29 := Lib.hid (hH29.out.keepB (hB22)); replace hH22 := Lib.hid hH22; clear hB22)
          | (refine step_append_empty _ rfl (.tmp 16) (.tmp 21) rfl _ rfl (.slice XA os.length xc) rfl os _ (hXW.out _ (Below.al hb29.out _)) hfo.out w.heap.size (Nat.le_trans hsz (Below.size (Below.al hb29.out _))) ?_; intro A22 c22 W22 hH22 hB22; have hb22 := Lib.hid (Below.step (Below.al hb29.out _) hB22); have hO29 := Lib.hid (hH29.out.keepB ((Below.step (Below.al (Below.refl _ _) _) hB22))); replace hH22 := Lib.hid hH22; clear hB22)
          | (refine step_append_empty _ rfl (.tmp 16) (.tmp 21) rfl _ rfl (.slice XA os.length xc) rfl os _ (hXW.out _ (Below.al1 wr _)) hfo.out w.heap.size (Nat.le_trans hsz (Below.size (Below.al1 wr _))) ?_; intro A22 c22 W22 hH22 hB22; have hb22 := Lib.hid (Below.step (Below.al1 wr _) hB22); replace hH22 := Lib.hid hH22; clear hB22)
          | (refine step_append_empty _ rfl (.tmp 16) (.tmp 21) rfl _ rfl (.slice XA os.length xc) rfl os _ (hXW.out _ (Below.al2 wr _ _)) hfo.out w.heap.size (Nat.le_trans hsz (Below.size (Below.al2 wr _ _))) ?_; intro A22 c22 W22 hH22 hB22; have hb22 := Lib.hid (Below.step (Below.al2 wr _ _) hB22); replace hH22 := Lib.hid hH22; clear hB22)
          | (refine step_append_empty _ rfl (.tmp 23) (.tmp 28) rfl _ rfl (.slice YA ns.length yc) rfl ns _ (hYW.out _ hb22.out) hfn.out w.heap.size (Nat.le_trans hsz (Below.size hb22.out)) ?_; intro A29 c29 W29 hH29 hB29; have hb29 := Lib.hid (Below.step hb22.out hB29); have hO22 := Lib.hid (hH22.out.keepB (hB29)); replace hH29 := Lib.hid hH29; clear hB29)
          | (refine step_append_empty _ rfl (.tmp 23) (.tmp 28) rfl _ rfl (.slice YA ns.length yc) rfl ns _ (hYW.out _ (Below.al hb22.out _)) hfn.out w.heap.size (Nat.le_trans hsz (Below.size (Below.al hb22.out _))) ?_; intro A29 c29 W29 hH29 hB29; have hb29 := Lib.hid (Below.step (Below.al hb22.out _) hB29); have hO22 := Lib.hid (hH22.out.keepB ((Below.step (Below.al (Below.refl _ _) _) hB29))); replace hH29 := Lib.hid hH29; clear hB29)
          | (refine step_append_empty _ rfl (.tmp 23) (.tmp 28) rfl _ rfl (.slice YA ns.length yc) rfl ns _ (hYW.out _ (Below.al1 wr _)) hfn.out w.heap.size (Nat.le_trans hsz (Below.size (Below.al1 wr _))) ?_; intro A29 c29 W29 hH29 hB29; have hb29 := Lib.hid (Below.step (Below.al1 wr _) hB29); replace hH29 := Lib.hid hH29; clear hB29)
          | (refine step_append_empty _ rfl (.tmp 23) (.tmp 28) rfl _ rfl (.slice YA ns.length yc) rfl ns _ (hYW.out _ (Below.al2 wr _ _)) hfn.out w.heap.size (Nat.le_trans hsz (Below.size (Below.al2 wr _ _))) ?_; intro A29 c29 W29 hH29 hB29; have hb29 := Lib.hid (Below.step (Below.al2 wr _ _) hB29); replace hH29 := Lib.hid hH29; clear hB29)
          | (refine step_append_rd _ rfl (.tmp 10) (.tmp 31) 37 rfl w.heap.size 46 (.agg zeroCh.toArray) 3 64 Tryd.underlying37 chInfo (.slice FA k fc) k (cCells P vs) rfl ((hRW.out _ hb22.out).alloc _) (fun _ => True) (some ⟨W22.heap.size, 0, none⟩) 1 1 [.string ⟨n.toArray⟩, .slice A22 os.length c22, .slice A29 ns.length c29] rfl rfl (Rd.of_blk (cs := [.string ⟨n.toArray⟩, .slice A22 os.length c22, .slice A29 ns.length c29]) (r := []) (Blk.new_at rfl) rfl trivial) (by simp [Value.oneCell']) (by unfold maxLen; omega) (by omega) (by have := hb22.out.size; simp; omega) ?_; intro v' W4 hrow4 hg4 hv4; replace hrow4 := Lib.hid hrow4; replace hg4 := Lib.hid hg4; clear hv4; obtain ⟨VA, vc, rfl, _, _⟩ := own_form hrow4.out)
          | (refine step_append_rd _ rfl (.tmp 10) (.tmp 31) 37 rfl w.heap.size 46 (.agg zeroCh.toArray) 3 64 Tryd.underlying37 chInfo (.slice FA k fc) k (cCells P vs) rfl ((hRW.out _ hb29.out).alloc _) (fun _ => True) (some ⟨W29.heap.size, 0, none⟩) 1 1 [.string ⟨n.toArray⟩, .slice A22 os.length c22, .slice A29 ns.length c29] rfl rfl (Rd.of_blk (cs := [.string ⟨n.toArray⟩, .slice A22 os.length c22, .slice A29 ns.length c29]) (r := []) (Blk.new_at rfl) rfl trivial) (by simp [Value.oneCell']) (by unfold maxLen; omega) (by omega) (by have := hb29.out.size; simp; omega) ?_; intro v' W4 hrow4 hg4 hv4; replace hrow4 := Lib.hid hrow4; replace hg4 := Lib.hid hg4; clear hv4; obtain ⟨VA, vc, rfl, _, _⟩ := own_form hrow4.out))
      all_goals
        have hX := hb29.out
        have hba : Below W29.heap.size W29 (W29.alloc (Obj.cells #[Value.string ⟨n.toArray⟩, Value.slice A22 os.length c22, Value.slice A29 ns.length c29] 46)) := (Below.refl _ _).alloc (Nat.le_refl _) _
        have hro := (hRW.out _ hX).alloc (Obj.cells #[Value.string ⟨n.toArray⟩, Value.slice A22 os.length c22, Value.slice A29 ns.length c29] 46)
        have hfin : Hid (OwnChs W4 w.heap.size (.slice VA (k + 1) vc) (C.take (k + 1)) ∧ Below w.heap.size w W4) := Lib.hid (by
          refine ⟨?_, ?_⟩
          · rw [htk.out]
            refine OwnChs.snoc (b := ⟨n, os, ns⟩) (u := (.slice A22 os.length c22, .slice A29 ns.length c29)) (vs := vs) hvl.out (fun j b u h1 h2 => ?_) ⟨(hO22.out.keepB hba).keepRow hro (by decide) hg4.out, (hH29.out.keepB hba).keepRow hro (by decide) hg4.out⟩ ?_
            · have := hHW.out _ hX j b u h1 h2
              exact ⟨(this.1.keepB hba).keepRow hro (by decide) hg4.out, (this.2.keepB hba).keepRow hro (by decide) hg4.out⟩
            · rw [hkl]; exact hrow4.out
          · exact hb.out.trans ((hX.mono hsz).trans ((hba.mono (Nat.le_trans hsz hX.size)).trans (own_below hro hg4.out (by have := hX.size; simp; omega))))) 
        clear hX hba hro
        go_wp2
        go_roundw
        case rel => exact ⟨k + 1, by omega, by go_num, hfin.out.1, hfin.out.2⟩
        case measure => simp [intOf]; omega
    · obtain rfl : k = C.length := by omega
      rw [List.take_length] at hO
      obtain ⟨FA, fc, rfl, _⟩ := hO.form
      replace hO := Lib.hid hO
      go_wp2
      go_ret
      exact ⟨_, rfl, hO.out, hb⟩
end Go.Proofs.YtlenmkemjaaaoaaDoor
