/- Commits in plain words: what is wrong with one, its bytes. -/
import Derived.Test.YtamdhaoglapnnaaGreatDoorM03
import Derived.ChangeKeysEq
import Derived.Test.YtamdhaoglapnnaaGreatDoorM05
section
namespace Go.Proofs.YtamdhaoglapnnaaGreatDoor
open Go.RowKit

/-- A Ref: whether it is the commit's own, a commit's digest, a number. -/
structure PRef where
  own : Bool
  com : Str
  n : Int
/-- An operation. -/
structure POp where
  kind : Int
  left : Bool
  at_ : PRef
  byte : UInt8
/-- A commit. -/
structure PCom where
  parents : List Str
  author : Str
  note : Str
  ops : List POp
def zeros : Str := List.replicate 32 0
def PRef.root (r : PRef) : Bool := !r.own && (r.com == zeros && r.n == 0)
def refOk (r : PRef) : Bool := if r.own then r.com == zeros && decide (0 < r.n) else if r.root then true else decide (0 < r.n) && decide (r.n ≤ 2000)
def ownE (l : List POp) (i : Nat) (x : POp) : Int := if x.at_.own && (decide ((i : Int) ≤ x.at_.n) || ((l[(x.at_.n - 1).toNat]?).map POp.kind != some 1)) then 5 else 0
def kindE (x : POp) : Int := if x.kind = 1 then (if x.left && x.at_.root then 1 else 0) else if x.kind = 2 then (if x.left || (x.byte != 0 || x.at_.root) then 1 else 0) else 1
/-- What is wrong with the i-th operation (from 1 on). -/
def rightE (l : List POp) (i : Int) : Int :=
  if i < 1 ∨ (l.length : Int) < i then 9 else
  match l[(i - 1).toNat]? with
  | none => 9
  | some x => if refOk x.at_ then (if kindE x = 0 then ownE l i.toNat x else kindE x) else 1
def rightsE (l : List POp) : Nat → Nat → Int
  | _, 0 => 0
  | i, n + 1 => if rightE l (i + 1 : Nat) = 0 then rightsE l (i + 1) n else rightE l (i + 1 : Nat)
/-- What is wrong with a commit. -/
def mayC (c : PCom) : Int :=
  if 8 < c.parents.length then 4 else if rises c.parents then (if nmOk c.author then (if 200 < c.note.length then 3 else if 2000 < c.ops.length then 4 else rightsE c.ops 0 c.ops.length) else 11) else 7
/-- A number's bytes. -/
def putN (n : Nat) : Str := if h : 128 ≤ n then UInt8.ofNat (n % 128 + 128) :: putN (n / 128) else [UInt8.ofNat n]
termination_by n
decreasing_by omega
def txtS (s : Str) : Str := putN s.length ++ s
def opN (x : POp) : Nat := (if x.kind = 2 then 1 else 0) + (if x.left then 2 else 0)
def atS (x : POp) : Str := if x.at_.own then putN (opN x + 4) ++ putN x.at_.n.toNat else if x.at_.root then putN (opN x) else putN (opN x + 8) ++ x.at_.com ++ putN x.at_.n.toNat
def opS (x : POp) : Str := atS x ++ (if x.kind = 1 then [x.byte] else [])
/-- A commit's bytes. -/
def encS (c : PCom) : Str := putN c.parents.length ++ c.parents.flatten ++ txtS c.author ++ txtS c.note ++ putN c.ops.length ++ c.ops.flatMap opS
theorem putN_big {n : Nat} (h : 128 ≤ n) : putN n = UInt8.ofNat (n % 128 + 128) :: putN (n / 128) := by
  rw [putN, dif_pos h]
theorem putN_small {n : Nat} (h : n < 128) : putN n = [UInt8.ofNat n] := by
  rw [putN, dif_neg (by omega)]
theorem putN_len : ∀ (k n : Nat), n < 128 ^ k → (putN n).length ≤ k + 1
  | 0, n, h => by
    rw [putN_small (by simp at h; omega)]; simp
  | k + 1, n, h => by
    by_cases h1 : 128 ≤ n
    · rw [putN_big h1, List.length_cons]
      have := putN_len k (n / 128) (by rw [Nat.div_lt_iff_lt_mul (by omega)]; rwa [Nat.pow_succ] at h)
      omega
    · rw [putN_small (by omega)]; simp
/-! ### cells -/
def refCells (r : PRef) : List Value := .bool r.own :: (r.com.map B ++ [.int .i64 r.n])
def opCells (x : POp) : List Value := .int .i64 x.kind :: .bool x.left :: (refCells x.at_ ++ [B x.byte])
def oCells (l : List POp) : List Value := l.flatMap opCells
structure OpFit (x : POp) : Prop where
  com : x.at_.com.length = 32
  n0 : -9223372036854775808 ≤ x.at_.n
  n1 : x.at_.n ≤ 9223372036854775807
  k0 : -9223372036854775808 ≤ x.kind
  k1 : x.kind ≤ 9223372036854775807
theorem opCells_len {x : POp} (h : OpFit x) : (opCells x).length = 37 := by
  simp [opCells, refCells, h.com]
theorem oCells_len : ∀ {l : List POp}, (∀ x ∈ l, OpFit x) → (oCells l).length = l.length * 37
  | [], _ => rfl
  | x :: l, h => by
    have e : oCells (x :: l) = opCells x ++ oCells l := rfl
    rw [e, List.length_append, opCells_len (h x (by simp)), oCells_len (fun y hy => h y (by simp [hy])), List.length_cons]
    omega
theorem oCells_at : ∀ {l : List POp}, (∀ x ∈ l, OpFit x) → ∀ (k : Nat) (hk : k < l.length) (j : Nat) v, (opCells l[k])[j]? = some v → (oCells l)[k * 37 + j]? = some v
  | x :: l, h, 0, hk, j, v, hv => by
    have e : oCells (x :: l) = opCells x ++ oCells l := rfl
    rw [e, List.getElem?_append_left (by have := (List.getElem?_eq_some_iff.1 hv).1; simpa using this)]
    simpa using hv
  | x :: l, h, k + 1, hk, j, v, hv => by
    have e : oCells (x :: l) = opCells x ++ oCells l := rfl
    have hd := opCells_len (h x (by simp))
    rw [e, List.getElem?_append_right (by omega), hd, show (k + 1) * 37 + j - 37 = k * 37 + j by omega]
    exact oCells_at (l := l) (fun y hy => h y (by simp [hy])) k (by simpa using hk) j v (by simpa using hv)
/-- The value v is a slice of operations that reads as l. -/
def OpsIs (w : World) (ok : Nat → Prop) (v : Value) (l : List POp) : Prop := ∃ (A : Option Addr) (c : Nat), v = .slice A l.length c ∧ l.length ≤ c ∧ Rd w ok A (oCells l)
structure OsFit (l : List POp) : Prop where
  len : l.length ≤ 1759218604441
  ok : ∀ x ∈ l, OpFit x
theorem OpsIs.stay {w w' : World} {ok ok' : Nat → Prop} {v : Value} {l : List POp} (h : OpsIs w ok v l) (hk : ∀ b, ok b → b < w.heap.size → w'.heap[b]? = w.heap[b]?) (ho : ∀ b, ok b → b < w.heap.size → ok' b) : OpsIs w' ok' v l := by
  obtain ⟨A, c, e, hc, hr⟩ := h
  exact ⟨A, c, e, hc, hr.stay hk ho⟩
theorem OpsIs.stayB {w w' : World} {ok : Nat → Prop} {v : Value} {l : List POp} (h : OpsIs w ok v l) (hb : Below w.heap.size w w') : OpsIs w' ok v l := h.stay (fun b _ hlt => hb.block b hlt) (fun _ h _ => h)
theorem OpsIs.op {w : World} {ok : Nat → Prop} {A : Option Addr} {n c : Nat} {l : List POp} (h : OpsIs w ok (.slice A n c) l) (ho : ∀ x ∈ l, OpFit x) (k : Nat) (hk : k < l.length) : ∃ b o, A = some ⟨b, o, none⟩ ∧ ok b ∧ b < w.heap.size ∧ ∀ j v, (opCells l[k])[j]? = some v → w.cell? ⟨b, o + k * 37 + j, none⟩ = some v := by
  obtain ⟨A', c', e, hc, hr⟩ := h
  injection e with e1 e2 e3
  subst e1
  obtain ⟨b, o, rfl, hb, hlt, hcell⟩ := hr.at (by rw [oCells_len ho]; omega)
  exact ⟨b, o, rfl, hb, hlt, fun j v hv => by rw [Nat.add_assoc]; exact hcell _ v (oCells_at ho k hk j v hv)⟩
/-- A commit's four cells. -/
structure ComFit (c : PCom) : Prop where
  par : HFit c.parents
  author : c.author.length ≤ 140737488355328
  note : c.note.length ≤ 140737488355328
  ops : OsFit c.ops
def ComIs (w : World) (ok : Nat → Prop) (cs : List Value) (c : PCom) : Prop := ∃ p o, cs = [p, strV c.author, strV c.note, o] ∧ HdIs w ok p c.parents ∧ OpsIs w ok o c.ops
theorem ComIs.stay {w w' : World} {ok ok' : Nat → Prop} {cs : List Value} {c : PCom} (h : ComIs w ok cs c) (hk : ∀ b, ok b → b < w.heap.size → w'.heap[b]? = w.heap[b]?) (ho : ∀ b, ok b → b < w.heap.size → ok' b) : ComIs w' ok' cs c := by
  obtain ⟨p, o, e, h1, h2⟩ := h
  exact ⟨p, o, e, h1.stay hk ho, h2.stay hk ho⟩
theorem ComIs.stayB {w w' : World} {ok : Nat → Prop} {cs : List Value} {c : PCom} (h : ComIs w ok cs c) (hb : Below w.heap.size w w') : ComIs w' ok cs c := h.stay (fun b _ hlt => hb.block b hlt) (fun _ h _ => h)
end Go.Proofs.YtamdhaoglapnnaaGreatDoor
end
section
/- The walks of what a Ref may be: commit.root, commit.ref. -/
namespace Go.Proofs.YtamdhaoglapnnaaGreatDoor
open Go.RowKit

def refV (r : PRef) : Value := .agg (refCells r).toArray
theorem part_bool (w : World) (xs : Array Value) (i : Nat) (b : Bool) (hx : xs[i]? = some (.bool b)) : (part 4 xs i).run Tryz.prog w = .ok (.bool b) w := by
  simp [part, isAgg, run_underlying Tryz.underlying4, hx]
theorem part_int (w : World) (xs : Array Value) (i : Nat) (n : Int) (hx : xs[i]? = some (.int .i64 n)) : (part 3 xs i).run Tryz.prog w = .ok (.int .i64 n) w := by
  simp [part, isAgg, run_underlying Tryz.underlying3, hx]
theorem part_dig (w : World) (b : Bool) (ds : Str) (n : Int) (hd : ds.length = 32) : (part 115 (Value.bool b :: (ds.map B ++ [Value.int .i64 n])).toArray 1).run Tryz.prog w = .ok (.agg (ds.map B).toArray) w := by
  have e : (Value.bool b :: (ds.map B ++ [Value.int .i64 n])).toArray.extract 1 33 = (ds.map B).toArray := by
    apply Array.ext'
    have h1 : List.take 32 (List.map B ds ++ [Value.int IntKind.i64 n]) = List.map B ds := List.take_left' (by simp [hd])
    simp [List.extract, h1]
  simp only [part, isAgg, run_underlying Tryz.underlying115, Tryz.sizeOf115, Sem.run_bind, Result.andThen_ok, Sem.run_pure, if_true, Nat.reduceAdd, e]
theorem eqFields3 {P : Program} (w : World) (D : Nat) (xs ys : Array Value) {s1 s2 s3 : TypeId} {o1 o2 o3 : Nat} (fs : List Field) (a1 a2 a3 b1 b2 b3 : Value) {u1 u2 u3 : Bool} (hf : (fs.map fun f => (f.name, f.type, f.offset)) = [("Own", s1, o1), ("Commit", s2, o2), ("N", s3, o3)])
    (pa : (part s1 xs o1).run P w = .ok a1 w) (pb : (part s1 ys o1).run P w = .ok b1 w) (qa : (part s2 xs o2).run P w = .ok a2 w) (qb : (part s2 ys o2).run P w = .ok b2 w) (ra : (part s3 xs o3).run P w = .ok a3 w) (rb : (part s3 ys o3).run P w = .ok b3 w)
    (e1 : (Op.equalIn D s1 a1 b1).run P w = .ok u1 w) (e2 : (Op.equalIn D s2 a2 b2).run P w = .ok u2 w) (e3 : (Op.equalIn D s3 a3 b3).run P w = .ok u3 w) :
    (Op.eqFields D xs ys fs).run P w = .ok (u1 && (u2 && u3)) w := by
  obtain ⟨f1, f2, f3, rfl⟩ : ∃ f1 f2 f3, fs = [f1, f2, f3] := by
    rcases fs with _ | ⟨f1, _ | ⟨f2, _ | ⟨f3, _ | ⟨f4, fs⟩⟩⟩⟩
    all_goals first | exact ⟨_, _, _, rfl⟩ | (exfalso; simp at hf)
  simp only [List.map_cons, List.map_nil, List.cons.injEq, Prod.mk.injEq, and_true] at hf
  obtain ⟨⟨n1, t1, p1⟩, ⟨n2, t2, p2⟩, ⟨n3, t3, p3⟩⟩ := hf
  simp only [Op.eqFields, n1, n2, n3, t1, t2, t3, p1, p2, p3, ne_eq, String.reduceEq, not_false_eq_true, if_true, Sem.run_bind, pa, pb, e1, Result.andThen_ok]
  cases u1 <;> cases u2 <;> cases u3 <;> simp [qa, qb, ra, rb, e2, e3]
theorem fields_ref : Tryz.prog.underlying 276 = some (.struct (Tryz.prog.fieldsOf 276)) := by
  simp [Program.fieldsOf, Tryz.underlying276]
set_option maxRecDepth 100000 in
theorem run_equalIn_ref (w : World) (a b : PRef) (ha : a.com.length = 32) (hb : b.com.length = 32) :
    (Op.equalIn 10000 276 (refV a) (refV b)).run Tryz.prog w = .ok (a.own == b.own && (a.com == b.com && a.n == b.n)) w := by
  have hf : ((Tryz.prog.fieldsOf 276).toList.map fun f => (f.name, f.type, f.offset)) = [("Own", 4, 0), ("Commit", 115, 1), ("N", 3, 33)] := by simp [Program.fieldsOf, Tryz.underlying276]
  have pa := part_bool w (refCells a).toArray 0 a.own rfl
  have pb := part_bool w (refCells b).toArray 0 b.own rfl
  have qa := part_dig w a.own a.com a.n ha
  have qb := part_dig w b.own b.com b.n hb
  have ra := part_int w (refCells a).toArray 33 a.n (by simp [refCells, ha])
  have rb := part_int w (refCells b).toArray 33 b.n (by simp [refCells, hb])
  have e1 : (Op.equalIn 9999 4 (.bool a.own) (.bool b.own)).run Tryz.prog w = .ok (a.own == b.own) w := run_equalIn_bool w 9998 _ _ _ Tryz.underlying4
  have e2 : (Op.equalIn 9999 115 (.agg (a.com.map B).toArray) (.agg (b.com.map B).toArray)).run Tryz.prog w = .ok (a.com == b.com) w := run_equalIn_arr (P := Tryz.prog) w 9998 115 5 32 Tryz.underlying115 Tryz.underlying5 (by kernel_rfl) a.com b.com ha hb (fun x y => by rw [run_equalIn_int (P := Tryz.prog) w 9997 5 .u8 .u8 (bv x) (bv y) Tryz.underlying5, bv_beq])
  have e3 : (Op.equalIn 9999 3 (.int .i64 a.n) (.int .i64 b.n)).run Tryz.prog w = .ok (a.n == b.n) w := run_equalIn_int w 9998 _ _ _ _ _ Tryz.underlying3
  unfold refV
  rw [run_equalIn_struct w 9999 276 _ _ fields_ref Tryz.stoodInHeld276]
  exact eqFields3 w 9999 _ _ _ _ _ _ _ _ _ hf pa pb qa qb ra rb e1 e2 e3
theorem run_eql_ref (w : World) (a b : PRef) (ha : a.com.length = 32) (hb : b.com.length = 32) :
    (binOp .eql 276 (refV a) (refV b)).run Tryz.prog w = .ok (.bool (a.own == b.own && (a.com == b.com && a.n == b.n))) w := by
  have h := run_equalIn_ref w a b ha hb
  unfold refV at h ⊢
  rw [run_eql_struct, h]
  rfl
end Go.Proofs.YtamdhaoglapnnaaGreatDoor
end
section
/- The walks of numbers' and texts' bytes. -/
namespace Go.Proofs.YtamdhaoglapnnaaGreatDoor
open Go.RowKit

/-- A row of bytes of one's own, from base on. -/
def ByTo (w : World) (base : Nat) (xs : Str) (e : Ending) (w' : World) : Prop := ∃ V, e = .returned V ∧ w'.ownsRow base 5 1 V xs.length (xs.map B) ∧ Below base w w'
theorem infoB : InfoOf Tryz.prog 5 (B 0) 1 1 := ⟨by kernel_rfl, rfl, by omega⟩
theorem or128_all : ∀ k : Fin 256, bits BinOp.or IntKind.u8 ((k.1 : Nat) : Int) 128 = bv (UInt8.ofNat (k.1 % 128 + 128)) := by decide +kernel
theorem or128 (m : Nat) : bits BinOp.or IntKind.u8 ((m : Int) % 256) 128 = bv (UInt8.ofNat (m % 128 + 128)) := by
  have := or128_all ⟨m % 256, by omega⟩
  have e : ((m : Int) % 256) = ((m % 256 : Nat) : Int) := by omega
  rw [e, this]
  have e2 : m % 256 % 128 = m % 128 := by omega
  simp only [e2]
theorem low8_all : ∀ k : Fin 256, ((k.1 : Nat) : Int) = bv (UInt8.ofNat k.1) := by decide +kernel
theorem low8 (m : Nat) (h : m < 128) : ((m : Int) % 256) = bv (UInt8.ofNat m) := by
  have := low8_all ⟨m, by omega⟩
  simp only at this
  rw [← this]; omega
set_option maxRecDepth 100000 in
set_option maxHeartbeats 4000000 in
theorem wput_any (n : Nat) (v : Value) (xs : Str) (base : Nat) (w : World) (hn : n ≤ 4611686018427387904) (ho : w.ownsRow base 5 1 v xs.length (xs.map B)) (hbase : base ≤ w.heap.size) (hx : xs.length ≤ 1099511627776) :
    Calls Tryz.prog 272 #[v, .int .i64 n] w (ByTo w base (xs ++ putN n)) := by
  have hpl := putN_len 9 n (by have : (128 : Nat) ^ 9 = 9223372036854775808 := by decide
                               omega)
  obtain ⟨VA, vc, rfl, _, _⟩ := own_form ho
  replace ho := Lib.hid ho
  go_enter Tryz.func272, Tryz.ntmps272
  go_wp2
  go_loopw [0, 1] (fun b i wr => ∃ (m : Nat) (ys : Str), m ≤ n ∧ i = .int .i64 m ∧ Hid (putN n = ys ++ putN m) ∧ wr.ownsRow base 5 1 b (xs ++ ys).length ((xs ++ ys).map B) ∧ Below base w wr) (fun _ i _ => (intOf i).toNat)
  case atStart => exact ⟨n, [], Nat.le_refl _, rfl, Lib.hid rfl, by simpa using ho.out, Below.refl _ _⟩
  case round =>
    obtain ⟨m, ys, hm, rfl, he, hrow, hb⟩ := hrel
    obtain ⟨FA, fc, rfl, _, _⟩ := own_form hrow
    have hyl : ys.length ≤ 10 := by
      have := congrArg List.length he.out
      rw [List.length_append] at this
      omega
    have hsz := hb.size
    obtain ⟨zs, hzs⟩ : ∃ zs, zs = xs ++ ys := ⟨_, rfl⟩
    have hzl : zs.length ≤ 1099511627786 := by rw [hzs, List.length_append]; omega
    rw [← hzs] at hrow ⊢
    replace hrow := Lib.hid hrow
    replace hzs := Lib.hid hzs
    by_cases h128 : 128 ≤ m
    · have d1 : decide (128 ≤ (m : Int)) = true := decide_eq_true (by omega)
      have e1 := or128 m
      have hpb := Lib.hid (putN_big h128)
      obtain ⟨c, hc⟩ : ∃ c, c = UInt8.ofNat (m % 128 + 128) := ⟨_, rfl⟩
      rw [← hc] at e1 hpb
      clear hc
      go_wp2_with (at_builtin; refine wpList_append_rd _ rfl (.tmp 9) (.tmp 13) 49 rfl base 5 (B 0) 1 1 Tryz.underlying49 infoB (.slice FA zs.length fc) zs.length (zs.map B) rfl (hrow.out.alloc _) (fun _ => True) (some ⟨wr.heap.size, 0, none⟩) 1 1 [B c] rfl rfl (Rd.of_blk (cs := [B c]) (r := []) (Blk.new_at rfl) rfl trivial) (by simp [Value.oneCell']) (by unfold maxLen; omega) (by omega) (by simp; omega) ?_; intro v4 W4 hrow4 hg4 hv4; replace hrow4 := Lib.hid hrow4; replace hg4 := Lib.hid hg4; clear hv4; obtain ⟨GA, gc, rfl, _, _⟩ := own_form hrow4.out; go_frame)
      go_roundw
      case rel =>
        have hba := hb.trans (((Below.refl _ _).alloc (Nat.le_refl _) (Obj.cells #[B c] 5)).mono (Nat.le_trans hbase hsz))
        have h5 := hrow4.out
        refine ⟨m / 128, ys ++ [c], by omega, ?_, Lib.hid (by rw [he.out, hpb.out, List.append_assoc]; rfl), ?_, hba.trans (own_below (hrow.out.alloc _) hg4.out (by simp; omega))⟩
        · go_num
        · rw [← List.append_assoc, ← hzs.out, List.length_append, List.map_append]
          exact h5
      case measure => simp [intOf]; omega
    · have d1 : decide (128 ≤ (m : Int)) = false := decide_eq_false (by omega)
      have e1 : Hid ((m : Int) = bv (UInt8.ofNat m)) := Lib.hid (by have := low8 m (by omega); omega)
      have hpb := Lib.hid (putN_small (by omega : m < 128))
      obtain ⟨c, hc⟩ : ∃ c, c = UInt8.ofNat m := ⟨_, rfl⟩
      rw [← hc] at e1 hpb
      clear hc
      go_wp2_with (at_builtin; refine wpList_append_rd _ rfl (.tmp 15) (.tmp 18) 49 rfl base 5 (B 0) 1 1 Tryz.underlying49 infoB (.slice FA zs.length fc) zs.length (zs.map B) rfl (hrow.out.alloc _) (fun _ => True) (some ⟨wr.heap.size, 0, none⟩) 1 1 [.int .u8 (m : Int)] rfl rfl (Rd.of_blk (cs := [.int .u8 (m : Int)]) (r := []) (Blk.new_at rfl) rfl trivial) (by simp [Value.oneCell']) (by unfold maxLen; omega) (by omega) (by simp; omega) ?_; intro v4 W4 hrow4 hg4 hv4; replace hrow4 := Lib.hid hrow4; replace hg4 := Lib.hid hg4; clear hv4; obtain ⟨GA, gc, rfl, _, _⟩ := own_form hrow4.out; go_frame)
      go_ret
      have hba := hb.trans (((Below.refl _ _).alloc (Nat.le_refl _) (Obj.cells #[Value.int .u8 (m : Int)] 5)).mono (Nat.le_trans hbase hsz))
      refine ⟨_, rfl, ?_, hba.trans (own_below (hrow.out.alloc _) hg4.out (by simp; omega))⟩
      have e2 : xs ++ putN n = zs ++ [c] := by rw [he.out, hpb.out, hzs.out, List.append_assoc]
      have e3 := e1.out
      have h5 := hrow4.out
      rw [e3] at h5
      rw [e2, List.length_append, List.map_append]
      exact h5
theorem strLn0 (s : Str) : (⟨s.toArray⟩ : ByteArray).size = s.length := by simp [ByteArray.size]
theorem infoBt : ∃ i, Tryz.prog.info? 5 = some i ∧ i.zero = some (.int .u8 0) ∧ i.size = 1 ∧ i.bytes = 1 := by
  have h := infoB.info
  cases hq : Tryz.prog.info? 5 with
  | none => simp [hq] at h
  | some i =>
    simp only [hq, Option.map_some, Option.some.injEq, Prod.mk.injEq] at h
    exact ⟨i, rfl, h.1, h.2.1, h.2.2⟩
theorem strCells_B (t : Str) : Lib.strCells ⟨t.toArray⟩ = t.map B := by
  simp [Lib.strCells, B, bv]
theorem nilRowB (w : World) : w.ownsRow w.heap.size 5 1 (.slice none 0 0) ([] : Str).length (([] : Str).map B) := ⟨rfl, .inl ⟨rfl, rfl⟩⟩
set_option maxRecDepth 100000 in
set_option maxHeartbeats 4000000 in
theorem wnum_any (n : Nat) (w : World) (hn : n ≤ 4611686018427387904) :
    Calls Tryz.prog 271 #[.int .i64 n] w fun e w' => ∃ V, e = .returned (.tuple #[V, .int .i64 0]) ∧ w'.ownsRow w.heap.size 5 1 V (putN n).length ((putN n).map B) ∧ Below w.heap.size w w' := by
  have hp := Lib.hid (wput_any n (.slice none 0 0) [] w.heap.size w hn (nilRowB w) (Nat.le_refl _) (by simp))
  unfold ByTo at hp
  rw [List.nil_append] at hp
  have d1 : decide ((n : Int) < 0) = false := decide_eq_false (by omega)
  go_enter Tryz.func271, Tryz.ntmps271
  go_wp2_with fail
  refine hp.out.mono ?_
  rintro e w1 ⟨V, rfl, ho, hb⟩
  obtain ⟨GA, gc, rfl, _, _⟩ := own_form ho
  replace ho := Lib.hid ho
  go_wp2
  go_ret2
  exact ⟨_, rfl, ho.out, hb⟩
set_option maxRecDepth 100000 in
set_option maxHeartbeats 4000000 in
theorem wtext_any (s : Str) (w : World) (hs : s.length ≤ 140737488355000) :
    Calls Tryz.prog 199 #[strV s] w (ByTo w w.heap.size (txtS s)) := by
  have hp := Lib.hid (wput_any s.length (.slice none 0 0) [] w.heap.size w (by omega) (nilRowB w) (Nat.le_refl _) (by simp))
  unfold ByTo at hp
  rw [List.nil_append] at hp
  have hpl := putN_len 9 s.length (by have : (128 : Nat) ^ 9 = 9223372036854775808 := by decide
                                      omega)
  obtain ⟨ps, hps⟩ : ∃ ps, ps = putN s.length := ⟨_, rfl⟩
  rw [← hps] at hp hpl
  replace hps := Lib.hid hps
  have hsl := strLn0 s
  obtain ⟨i0, hi, hz0, hz1, hz2⟩ := infoBt
  replace hi := Lib.hid hi
  replace hz0 := Lib.hid hz0
  replace hz1 := Lib.hid hz1
  replace hz2 := Lib.hid hz2
  unfold strV
  go_enter Tryz.func199, Tryz.ntmps199
  go_wp2_with fail
  refine hp.out.mono ?_
  rintro e w1 ⟨V, rfl, ho, hb⟩
  obtain ⟨GA, gc, rfl, _, _⟩ := own_form ho
  have hsz := hb.size
  replace ho := Lib.hid ho
  go_wp2_with (at_builtin; refine Lib.wpList_append_own_string _ rfl (.tmp 5) (.tmp 6) 49 9 rfl w.heap.size 5 i0 Tryz.underlying49 Tryz.underlying9 hi.out hz0.out hz1.out hz2.out (.slice GA ps.length gc) ps.length (ps.map B) rfl ho.out ⟨s.toArray⟩ rfl (by rw [hsl]; unfold maxLen; omega) (by rw [hsl]; omega) hsz ?_; intro v4 W4 hrow4 hg4 hv4; replace hrow4 := Lib.hid hrow4; replace hg4 := Lib.hid hg4; clear hv4; obtain ⟨FA, fc, rfl, _, _⟩ := own_form hrow4.out; go_frame)
  go_ret
  have h5 := hrow4.out
  rw [strCells_B, hsl] at h5
  refine ⟨_, rfl, ?_, hb.trans (own_below ho.out hg4.out hsz)⟩
  rw [show txtS s = ps ++ s by rw [hps.out]; rfl, List.length_append, List.map_append]
  rw [hsl]
  exact h5
end Go.Proofs.YtamdhaoglapnnaaGreatDoor
end
section
/- A number's bytes behind others. -/
namespace Go.Proofs.YtamdhaoglapnnaaGreatDoor
open Go.RowKit

/-- Blocks of other types stay. -/
def Keep8 (w w' : World) : Prop := ∀ g t cs, Blk w g t cs → t ≠ 5 → Blk w' g t cs
theorem Keep8.refl (w : World) : Keep8 w w := fun _ _ _ h _ => h
theorem Keep8.trans {a b c : World} (h : Keep8 a b) (k : Keep8 b c) : Keep8 a c := fun g t cs hB hn => k g t cs (h g t cs hB hn) hn
theorem Keep8.below {w w' : World} (h : Below w.heap.size w w') : Keep8 w w' := fun _ _ _ hB _ => hB.below h hB.lt
theorem Keep8.grown {w w' : World} {base n : Nat} {v : Value} {xs : List Value} (ho : w.ownsRow base 5 1 v n xs) (h : w.grownBy w' v.ownBlock) : Keep8 w w' := fun g t cs hB hne => hB.grown h (fun he => by
  rcases ho.2 with ⟨rfl, _⟩ | ⟨g', cap, cur, rfl, _, hg, _⟩
  · cases he
  · have e' : g = g' := by
      simp [Value.ownBlock] at he
      exact he
    subst e'
    have h1 := hB.symm.trans hg
    injection h1 with h1
    injection h1 with _ h2
    exact hne h2)
def ByTo2 (w : World) (base : Nat) (xs : Str) (e : Ending) (w' : World) : Prop := ∃ V, e = .returned V ∧ w'.ownsRow base 5 1 V xs.length (xs.map B) ∧ Below base w w' ∧ Keep8 w w'
set_option maxRecDepth 100000 in
set_option maxHeartbeats 1000000 in
theorem num_any (n : Nat) (v : Value) (xs : Str) (base : Nat) (w : World) (hn : n ≤ 4611686018427387904) (ho : w.ownsRow base 5 1 v xs.length (xs.map B)) (hbase : base ≤ w.heap.size) (hx : xs.length ≤ 1099511627776) :
    Calls Tryz.prog 198 #[v, .int .i64 n] w (ByTo2 w base (xs ++ putN n)) := by
  obtain ⟨FA, fc, rfl, _, _⟩ := own_form ho
  have hnum := Lib.hid (wnum_any n w hn)
  have hpl := putN_len 9 n (by omega)
  replace ho := Lib.hid ho
  go_enter Tryz.func198, Tryz.ntmps198
  go_wp2_with fail
  refine hnum.out.mono ?_
  rintro e W ⟨V, rfl, hV, hb⟩
  obtain ⟨GA, gc, rfl, _, _⟩ := own_form hV
  have hO := Lib.hid (own_touch ho.out (Touch.ofBelow (L := []) hb) (fun _ _ hm => by cases hm))
  have hR := Lib.hid (own_rd hV)
  replace hb := Lib.hid hb
  have hbs := hb.out.size
  clear hV
  go_wp2_with (at_builtin; refine wpList_append_rd _ rfl (.tmp 12) (.tmp 13) 49 rfl base 5 (B 0) 1 1 Tryz.underlying49 infoB (.slice FA xs.length fc) xs.length (xs.map B) rfl hO.out _ GA (putN n).length gc ((putN n).map B) rfl (by simp) hR.out (by simp [Value.oneCell']) (by unfold maxLen; omega) (by omega) (by omega) ?_; intro v4 W4 hrow4 hg4 hv4; replace hrow4 := Lib.hid hrow4; replace hg4 := Lib.hid hg4; clear hv4; obtain ⟨VA, vc, rfl, _, _⟩ := own_form hrow4.out; go_frame)
  go_ret
  refine ⟨_, rfl, ?_, (hb.out.mono hbase).trans (own_below hO.out hg4.out (by omega)), (Keep8.below hb.out).trans (Keep8.grown hO.out hg4.out)⟩
  have := hrow4.out
  simpa using this
end Go.Proofs.YtamdhaoglapnnaaGreatDoor
end
