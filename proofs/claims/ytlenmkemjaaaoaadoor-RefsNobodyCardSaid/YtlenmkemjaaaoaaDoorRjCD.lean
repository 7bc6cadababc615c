/- Joined: RfC, RfD. -/
import Derived.Test.YtlenmkemjaaaoaaDoorRfB
import Derived.Test.YtlenmkemjaaaoaaDoorRfY
import Derived.Test.YtlenmkemjaaaoaaDoorHex
section
/- The walk of refs.Print. -/
namespace Go.Proofs.YtlenmkemjaaaoaaDoor
open Go.RowKit

theorem lineH_snoc (l : List Str) (d : Str) : lineH (l ++ [d]) = lineH l ++ (32 :: hexOf d) := by simp [lineH]
theorem lineH_len : ∀ {l : List Str}, hOk l → (lineH l).length = l.length * 65
  | [], _ => rfl
  | d :: l, h => by
    have ih := lineH_len (l := l) (fun x hx => h x (by simp [hx]))
    have hd : (hexOf d).length = 64 := by rw [hexOf_length, h d (by simp)]
    show ((32 :: hexOf d) ++ lineH l).length = _
    rw [List.length_append, ih, List.length_cons, hd, List.length_cons]
    omega
theorem printS_snoc (T : Tab) (b : Br) : printS (T ++ [b]) = printS T ++ lineS b := by simp [printS]
theorem lineS_len {b : Br} (hb : bOk b) (ho : hOk b.heads) : (lineS b).length ≤ 545 := by
  obtain ⟨h1, _, h3⟩ := hb
  have h4 : b.name.length ≤ 24 := by
    simp only [nmOk, Bool.and_eq_true, decide_eq_true_eq] at h1
    exact h1.2
  have h5 : b.heads.length ≤ 8 := by
    unfold headsE at h3
    split at h3
    · cases h3
    · omega
  unfold lineS
  rw [List.length_append, List.length_append, lineH_len ho]
  simp
  omega
theorem printS_len : ∀ {T : Tab}, (∀ b ∈ T, bOk b) → tOk T → (printS T).length ≤ T.length * 545
  | [], _, _ => by simp [printS]
  | b :: T, h, ho => by
    have ih := printS_len (T := T) (fun x hx => h x (by simp [hx])) (fun x hx => ho x (by simp [hx]))
    have hb := lineS_len (h b (by simp)) (ho b (by simp))
    show (lineS b ++ printS T).length ≤ _
    rw [List.length_append, List.length_cons]
    omega
end Go.Proofs.YtlenmkemjaaaoaaDoor
end

section
/- The walk of refs.Print. -/
namespace Go.Proofs.YtlenmkemjaaaoaaDoor
open Go.RowKit

def printT (T : Tab) : Str := if mayE T = 0 then printS T else []
theorem take_at {α : Type} {l : List α} {k : Nat} (h : k < l.length) : l.take (k + 1) = l.take k ++ [l[k]] := List.take_succ_eq_append_getElem h
theorem bis_below {B b : Nat} {s : Str} {w w' : World} (h : BIs B b s w) (hb : Below w.heap.size w w') : BIs B b s w' := by
  have key : ∀ p, Lib.BuilderAt 86 5 B b p (Lib.byteCells s) w → Lib.BuilderAt 86 5 B b p (Lib.byteCells s) w' := by
    rintro p ⟨hB, v, hbk, hown, hne⟩
    have hlt : b < w.heap.size := (Array.getElem?_eq_some_iff.1 hbk).1
    exact ⟨hB, v, (hb.block b hlt).trans hbk, own_touch (L := []) hown (Touch.ofBelow hb) (by simp), hne⟩
  rcases h with h | h
  · exact .inl (key _ h)
  · exact .inr (key _ h)
theorem str_add (a b : Str) : ((⟨a.toArray⟩ : ByteArray) ++ ⟨b.toArray⟩) = ⟨(a ++ b).toArray⟩ := by
  apply ByteArray.ext
  simp
set_option maxRecDepth 100000 in
set_option maxHeartbeats 4000000 in
theorem print_any (T : Tab) (v : Value) (ok : Nat → Prop) (w : World) (h : TabIs w ok v T) (hf : TFit T) :
    Calls Tryd.prog 13 #[v] w fun e w' => e = .returned (.tuple #[strV (printT T), .int .i64 (mayE T)]) ∧ Below w.heap.size w w' := by
  obtain ⟨A, c, rfl, hc⟩ := h.form
  have hmay := Lib.hid (may_any T _ ok w h hf)
  have hlen : T.length ≤ 3518437208832 := hf.len
  unfold strV
  by_cases hm : mayE T = 0
  · have hpt : Hid (printT T = printS T) := Lib.hid (by unfold printT; rw [if_pos hm])
    have hbk := Lib.hid ((mayE_zero T).1 hm)
    have hpl := printS_len hbk.out.2.1 (fun b hb => (hf.ok b hb).heads.ok)
    have hl32 : T.length ≤ 32 := hbk.out.1
    rw [hm] at hmay ⊢
    have hok := Lib.hid hf.ok
    replace h := Lib.hid h
    clear hm hf hc
    go_enter Tryd.func13, Tryd.ntmps13
    go_wp2_with fail
    refine hmay.out.mono ?_
    rintro e w1 ⟨rfl, hb1⟩
    have h1 := Lib.hid (h.out.stayB hb1).ltB
    replace hb1 := Lib.hid hb1
    clear hmay h
    go_wp2_with fail
    have hbis : BIs w1.heap.size w1.heap.size [] (w1.alloc (Obj.cells #[Value.pointer none, Value.slice none 0 0] 86)) :=
      .inl ⟨Nat.le_refl _, _, heap_alloc_new w1 _, World.ownsRow_nil _ _ _ _, by simp [Value.ownBlock]⟩
    go_loopw [17] (fun i wr => ∃ k : Nat, k ≤ T.length ∧ i = .int .i64 k ∧ BIs w1.heap.size w1.heap.size (printS (T.take k)) wr ∧ Below w1.heap.size w1 wr) (fun i _ => T.length - (intOf i).toNat)
    case atStart => exact ⟨0, Nat.zero_le _, rfl, hbis, (Below.refl _ _).alloc (Nat.le_refl _) _⟩
    case round =>
      clear hbis
      obtain ⟨k, hk, rfl, hB, hb⟩ := hrel
      by_cases hlt : k < T.length
      · have hw0 := h1.out.low hb
        obtain ⟨b, o, u, rfl, _, hbl, hU, c0, c1⟩ := hw0.br k hlt
        have hbf := hok.out T[k] (List.getElem_mem hlt)
        have hbo := hbk.out.2.1 T[k] (List.getElem_mem hlt)
        have hpre := printS_len (T := T.take k) (fun x hx => hbk.out.2.1 x (List.mem_of_mem_take hx)) (fun x hx => (hok.out x (List.mem_of_mem_take hx)).heads.ok)
        have hline := lineS_len hbo hbf.heads.ok
        have hsucc : Hid (printS (T.take (k + 1)) = printS (T.take k) ++ (T[k].name ++ lineH T[k].heads ++ [10])) := Lib.hid (by rw [take_at hlt, printS_snoc]; rfl)
        unfold lineS at hline
        obtain ⟨n, hn⟩ : ∃ n, n = T[k].name := ⟨_, rfl⟩
        obtain ⟨hs, hhs⟩ : ∃ hs, hs = T[k].heads := ⟨_, rfl⟩
        obtain ⟨pre, hpr⟩ : ∃ pre, pre = printS (T.take k) := ⟨_, rfl⟩
        have hho : hOk hs := by rw [hhs]; exact hbf.heads.ok
        have hhl : hs.length ≤ 4398046511104 := by rw [hhs]; exact hbf.heads.len
        rw [← hn, ← hhs] at hsucc hline
        rw [← hpr] at hsucc hpre hB
        rw [← hn] at c0
        rw [← hhs] at hU
        clear hn hhs hpr hbf hbo
        have hpl2 : pre.length ≤ 17440 := by rw [List.length_take] at hpre; omega
        simp only [List.length_append, List.length_cons, List.length_nil] at hline
        obtain ⟨UA, uc, rfl, huc, _⟩ := id hU
        have hcells := Lib.hid (two_cells c0 c1)
        obtain ⟨hX1, hbx1⟩ := boxed wr 61 zeroBr [strV n, .slice UA hs.length uc]
        obtain ⟨W1, hW1⟩ : ∃ W1, W1 = (wr.alloc (.cells zeroBr.toArray 61)).setRow wr.heap.size [strV n, .slice UA hs.length uc].toArray := ⟨_, rfl⟩
        rw [← hW1] at hX1 hbx1
        replace hW1 := Lib.hid hW1
        have hone : Hid (∀ v ∈ [strV n, Value.slice UA hs.length uc], v.oneCell' = true) := Lib.hid (by simp [strV, Value.oneCell'])
        have hB1 := bis_below hB hbx1
        have hU1 := hU.low (hbx1.mono hb.size)
        have hbW := hb.trans (hbx1.mono hb.size)
        have d0 : W1.cell? ⟨wr.heap.size, 0, none⟩ = some (.string ⟨n.toArray⟩) := by rw [hX1.cell]; rfl
        have i1 : (0 : Int) ≤ (k : Int) := by omega
        have i2 : (k : Int) < (T.length : Int) := by omega
        have hgl := hX1.lt
        replace hho := Lib.hid hho
        have hws := Lib.hid (ws_any w1.heap.size w1.heap.size pre n W1 hB1 (by omega) hbW.size)
        replace hX1 := Lib.hid hX1
        replace hU1 := Lib.hid hU1
        replace hbW := Lib.hid hbW
        replace hpre := Lib.hid hpre
        clear hw0 c0 c1 hU hB hB1 hb hbx1
        go_wp2_with (first
          | (refine wpList_load_at 61 (.tmp 19) rfl rfl b (o + k * 2) rfl [strV n, .slice UA hs.length uc] hcells.out _ Tryd.underlying61 rfl brSz ?_; go_frame)
          | (refine wpList_store_blk rfl 61 (.tmp 7) (.tmp 20) rfl wr.heap.size [strV n, .slice UA hs.length uc] rfl rfl 61 zeroBr (Blk.new_at rfl) rfl brSz hone.out ?_; rw [show (wr.alloc (Obj.cells #[Value.string ⟨#[]⟩, Value.slice none 0 0] 61)).setRow wr.heap.size [strV n, .slice UA hs.length uc].toArray = W1 from hW1.out.symm]; go_frame))
        refine hws.out.mono ?_
        rintro e W2 ⟨rfl, hB2, hb2, hk2⟩
        have hX2 := hk2 _ _ _ hX1.out (by decide) (by decide)
        have hU2 := Lib.hid (hU1.out.low hb2)
        have hbW2 := Lib.hid (hbW.out.trans hb2)
        have d1 : W2.cell? ⟨wr.heap.size, 1, none⟩ = some (.slice UA hs.length uc) := by rw [hX2.cell]; rfl
        clear hX2 hb2 hk2 hX1 hU1 hbW hws hcells hone hW1 d0 hgl
        generalize wr.heap.size = g0 at d1 ⊢
        have hz := (zero_of_info zeros32).1
        have hrest : hs.length * 65 + n.length ≤ 545 := by rw [lineH_len hho.out] at hline; omega
        go_wp2_with fail
        go_loopw [27] (fun i wr => ∃ j : Nat, j ≤ hs.length ∧ i = .int .i64 j ∧ BIs w1.heap.size w1.heap.size (pre ++ n ++ lineH (hs.take j)) wr ∧ Below w1.heap.size w1 wr ∧ Below w1.heap.size W2 wr) (fun i _ => hs.length - (intOf i).toNat)
        case atStart => exact ⟨0, Nat.zero_le _, rfl, by simpa [lineH] using hB2, hbW2.out, Below.refl _ _⟩
        case round =>
          clear hB2 hbW2 d1
          obtain ⟨j, hj, rfl, hB3, hb3, hb3'⟩ := hrel
          by_cases hjl : j < hs.length
          · obtain ⟨gd, od, rfl, hgdl, _, hcd⟩ := HdIs.dig hU2.out hho.out j hjl
            have hcd3 : Hid (∀ i v, (hs[j].map B)[i]? = some v → wr.cell? ⟨gd, od + j * 32 + i, none⟩ = some v) := Lib.hid (fun i v hv => by
              rw [hb3'.cell (p := ⟨gd, _, none⟩) hgdl]; exact hcd i v hv)
            have hdl := hho.out hs[j] (List.getElem_mem hjl)
            have hsucc2 : Hid (pre ++ n ++ lineH (hs.take (j + 1)) = pre ++ n ++ lineH (hs.take j) ++ (32 :: hexOf hs[j])) := Lib.hid (by rw [take_at hjl, lineH_snoc, List.append_assoc, List.append_assoc, List.append_assoc])
            have hll : (pre ++ n ++ lineH (hs.take j)).length ≤ 20000 := by
              rw [List.length_append, List.length_append, lineH_len (fun x hx => hho.out x (List.mem_of_mem_take hx)), List.length_take]; omega
            obtain ⟨q, hq⟩ : ∃ q, q = pre ++ n ++ lineH (hs.take j) := ⟨_, rfl⟩
            rw [← hq] at hll hsucc2 hB3
            obtain ⟨d, hd⟩ : ∃ d, d = hs[j] := ⟨_, rfl⟩
            rw [← hd] at hcd3 hdl hsucc2
            clear hd hq hcd
            have hsd := Lib.hid (digSz hdl)
            have hzl : Hid (zero32.length = (d.map B).length) := Lib.hid (by rw [List.length_map, hdl]; rfl)
            obtain ⟨hX4, hbx4⟩ := boxed wr 57 zero32 (d.map B)
            obtain ⟨W4, hW4⟩ : ∃ W4, W4 = (wr.alloc (.cells zero32.toArray 57)).setRow wr.heap.size (d.map B).toArray := ⟨_, rfl⟩
            rw [← hW4] at hX4 hbx4
            replace hW4 := Lib.hid hW4
            have hB4 := Lib.hid (bis_below hB3 hbx4)
            have hb4 := hb3.trans (hbx4.mono hb3.size)
            have hb4' := hb3'.trans (hbx4.mono hb3.size)
            have hhx := Lib.hid (hex_any d hdl W4)
            have hhl : (32 :: hexOf d).length = 65 := by rw [List.length_cons, hexOf_length, hdl]
            have hadd := str_add [32] (hexOf d)
            simp only [List.cons_append, List.nil_append] at hadd
            replace hX4 := Lib.hid hX4
            have i3 : (0 : Int) ≤ (j : Int) := by omega
            have i4 : (j : Int) < (hs.length : Int) := by omega
            clear hB3 hb3 hb3' hbx4
            obtain ⟨hx, hhx2⟩ : ∃ hx, hx = hexOf d := ⟨_, rfl⟩
            rw [← hhx2] at hhx hhl hadd hsucc2
            clear hhx2
            have hsz : (⟨hx.toArray⟩ : ByteArray).size = 64 := by rw [strLn]; simpa using hhl
            go_wp2_with (first
              | (refine wpList_load_at 57 (.tmp 29) rfl rfl gd (od + j * 32) rfl (d.map B) hcd3.out _ Tryd.underlying57 rfl hsd.out ?_; go_frame)
              | (refine wpList_store_blk rfl 57 (.tmp 9) (.tmp 30) rfl wr.heap.size (d.map B) rfl rfl 57 zero32 (Blk.new_at rfl) hzl.out hsd.out (all_B _) ?_; rw [show (wr.alloc (Obj.cells zero32.toArray 57)).setRow wr.heap.size (d.map B).toArray = W4 from hW4.out.symm]; go_frame)
              | (refine wpList_load_blk rfl 57 (.tmp 9) rfl wr.heap.size rfl 57 (d.map B) hX4.out _ Tryd.underlying57 rfl hsd.out ?_; go_frame)
              | (go_at_call 35; refine hhx.out.mono ?_; rintro e W5 ⟨rfl, hb5⟩; replace hb5 := Lib.hid hb5))
            have hb5' := hb4.trans (hb5.out.mono hb4.size)
            have hB5 := bis_below hB4.out hb5.out
            refine (ws_any w1.heap.size w1.heap.size q (32 :: hx) W5 hB5 (by omega) hb5'.size).mono ?_
            rintro e W6 ⟨rfl, hB6, hb6, _⟩
            rw [← hsucc2.out] at hB6
            replace hB6 := Lib.hid hB6
            have hb7 := hb5'.trans hb6
            have hb8 := (hb4'.trans (hb5.out.mono hb4.size)).trans hb6
            clear hB4 hB5 hb6 hb5' hb5 hhx hb4 hb4' hX4 hW4
            go_wp2
            go_roundw
            case rel => exact ⟨j + 1, by omega, by go_num, hB6.out, hb7, hb8⟩
            case measure => simp [intOf]; omega
          · obtain rfl : j = hs.length := by omega
            rw [List.take_length] at hB3
            have hlast : Hid (pre ++ n ++ lineH hs ++ [10] = printS (T.take (k + 1))) := Lib.hid (by rw [hsucc.out]; simp)
            have hll : (pre ++ n ++ lineH hs).length ≤ 20000 := by
              rw [List.length_append, List.length_append, lineH_len hho.out]; omega
            obtain ⟨q, hq⟩ : ∃ q, q = pre ++ n ++ lineH hs := ⟨_, rfl⟩
            rw [← hq] at hll hlast hB3
            clear hq
            have hws := Lib.hid (ws_any w1.heap.size w1.heap.size q [10] wr hB3 (by simp; omega) hb3.size)
            replace hb3 := Lib.hid hb3
            clear hB3 hb3'
            go_wp2_with fail
            refine hws.out.mono ?_
            rintro e W6 ⟨rfl, hB6, hb6, _⟩
            rw [hlast.out] at hB6
            replace hB6 := Lib.hid hB6
            have hb7 := hb3.out.trans hb6
            clear hb6 hws
            go_wp2
            go_roundw
            case rel => exact ⟨k + 1, by omega, by go_num, hB6.out, hb7⟩
            case measure => simp [intOf]; omega
      · obtain rfl : k = T.length := by omega
        rw [List.take_length] at hB
        have hstr := Lib.hid (Tryd.Builder_String_any w1.heap.size w1.heap.size (printS T) wr hB hb.size)
        replace hb := Lib.hid hb
        go_wp2_with fail
        refine hstr.out.mono ?_
        rintro e w2 ⟨rfl, hb2⟩
        go_wp2
        go_ret2
        exact ⟨two_ret (by rw [hpt.out]; rfl) rfl, (hb1.out.trans ((hb.out.trans hb2).mono hb1.out.size))⟩
  · have hpt : Hid (printT T = []) := Lib.hid (by unfold printT; rw [if_neg hm])
    obtain ⟨x, hx⟩ : ∃ x, x = mayE T := ⟨_, rfl⟩
    rw [← hx] at hmay hm ⊢
    clear hx h hf
    have g1 : (x != 0) = true := by simpa using hm
    go_enter Tryd.func13, Tryd.ntmps13
    go_wp2_with fail
    refine hmay.out.mono ?_
    rintro e w1 ⟨rfl, hb1⟩
    replace hb1 := Lib.hid hb1
    go_wp2
    go_ret2
    exact ⟨two_ret (by rw [hpt.out]; rfl) rfl, hb1.out⟩
end Go.Proofs.YtlenmkemjaaaoaaDoor
end
