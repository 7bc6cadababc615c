import Derived.Test.YtfdimggmljkkbaaGreatDoorP07
import Derived.Test.YtfdimggmljkkbaaGreatDoorP08
open Go renaming results_none → lB
open Go.Proofs.Tryz renaming prog → lA
open Go.RowKit.Below renaming refl → lC
namespace Go.Proofs.YtfdimggmljkkbaaGreatDoor
section
open Go.RowKit
theorem Z1h(c:UInt8):∀ v ∈ [B c],v.oneCell'=true:=by simp[Value.oneCell']
end
section
set_option maxRecDepth 100000
set_option maxHeartbeats 1000000
open Go.Lib renaming hid → iD
open Go.Proofs.Tryz
open Go.RowKit
theorem mkB0(w:World):(Instr.makeSlice 139 (.int .i64 0) (.int .i64 0)).run lA w=.ok (.slice (some ⟨w.heap.size,0,none⟩) 0 0) (w.alloc (.cells #[] 4)):=by
 have h:=run_make_row' 139 4 (.bool false) 1 underlying139 (by kernel_rfl) rfl .i64 .i64 0 (by omega) (by omega) w;have e:madeCells #[Value.bool false] 0=#[]:=by kernel_rfl
 rw[e] at h;exact h
theorem Zhr(A:Option Addr)(c:Nat)(f:Value)(w:World):Calls lA 267 #[.slice A 0 c,.int .i64 0,.int .i64 0,f] w fun e w'=>e=.returned (.tuple #[])/\Below w.heap.size w w':=by
 go_enter func267,ntmps267;go_wp2;go_rounds 1;refine bodyPost_end (v:=.tuple #[]) (lB (by rfl) _ _ _) rfl ⟨rfl,lC _ _⟩
theorem Zhs(A:Option Addr)(c:Nat)(f n:Value)(w:World):Calls lA 243 #[.slice A 0 c,.int .i64 0,.int .i64 0,n,f] w fun e w'=>e=.returned (.tuple #[])/\Below w.heap.size w w':=by
 have hc:=iD (Zhr A c f w);go_enter func243,ntmps243;go_wp2_with fail;refine wp_loop_rounds 1 ?_;rw[rounds_succ];go_wp2_with fail;refine hc.out.mono ?_;rintro e W ⟨rfl,hb⟩;go_wp2_with fail;exact bodyPost_ret (v:=.tuple #[]) (lB (by rfl) _ _ _) rfl ⟨rfl,hb⟩
theorem Zht(A:Option Addr)(c:Nat)(f:Value)(w:World):Calls lA 198 #[.slice A 0 c,f] w fun e w'=>e=.returned (.tuple #[])/\Below w.heap.size w w':=by
 have hc:=iD (fun n=>Zhs A c f n w);have hl:=iD (Tryz.bits_Len 0 w (by omega) (by omega));go_enter func198,ntmps198;go_wp2_with fail;refine hl.out.mono ?_;rintro e W ⟨rfl,rfl⟩;go_wp2_with fail;refine (hc.out _).mono ?_;rintro e W1 ⟨rfl,hb⟩;go_wp2_with fail;exact bodyPost_end (v:=.tuple #[]) (lB (by rfl) _ _ _) rfl ⟨rfl,hb⟩
end
section

end
section
open Go.RowKit
theorem Z38{s:Str}(h:s.length<=2000):(Kx s).length<=s.length+10:=by
 have h1:=Z01 9 s.length (by omega);simp[Kx];omega
end
section
set_option maxHeartbeats 1000000
open Go.Lib renaming hid → iD
open Go.Proofs.Tryz
open Go.RowKit
theorem Zae(xs:List UInt8)(A:Option Addr)(cap:Nat)(w:World)(hR:Rd w (· < w.heap.size) A (xs.map B))(hcap:xs.length<=cap)(hn:xs.length<=281474976710656)(hK:Y9 w) :
  Calls lA 57 #[.slice A xs.length cap] w fun e w'=>e=.returned (.agg ((Ge xs).map B).toArray)/\Below w.heap.size w w':=by
 have hz:=(zero_of_info Z4k).1;go_enter func57,ntmps57;go_wp2_with (go_at_call 113;refine (Zif _).mono ?_);rintro e w1 ⟨g,rfl,hg,hB1,hb1⟩;have hs1:=hb1.size;simp at hs1;have hH1:=Zig hB1;have hb1':Below w.heap.size w w1:=((lC w.heap.size w).alloc (Nat.le_refl _) _).trans (hb1.mono (by simp));have hres:Blk w1 w.heap.size 47 Z3:=(Blk.new_at (w:=w) rfl).below hb1 (by simp);have hR1:Rd w1 (· ≠ g) A (xs.map B):=(hR.below hb1').weak (fun b hb hlt=>by simp at hg;omega);have hw:=Zac g [] xs A cap w1 hH1 hR1 hcap (by simp;omega) (keys_below hK hb1');simp at hg;clear hz hb1;replace hw:=iD hw;go_wp2_with (go_at_call 114;refine hw.out.mono ?_);rintro e w2 ⟨rfl,hH2,hG2⟩;have hb2:Below w.heap.size w w2:=hb1'.trans (Z7p hG2 (by omega) (by omega));have hres2:Blk w2 w.heap.size 47 Z3:=hres.grown hG2 (by simp;omega);have hh:=Zj3 g ([]++xs) w2 hH2 (by simpa using hn) (keys_below hK hb2);rw[List.nil_append] at hh;replace hh:=iD hh;go_wp2_with (go_at_call 115;refine hh.out.mono ?_);rintro e w3 ⟨rfl,hb3⟩;go_wp2_with (refine Zo rfl 47 (.tmp 2) (.tmp 9) rfl w.heap.size ((Ge xs).map B) rfl rfl 47 Z3 (hres2.below hb3 hres2.lt) rfl (by kernel_rfl) (Yk _) ?_);refine Z0q Tryz.results57 w.heap.size 47 ((Ge xs).map B) _ rfl ((hres2.below hb3 hres2.lt).setRow_same _) underlying47 rfl (by kernel_rfl) rfl ?_;exact⟨rfl,below_setRow (hb2.trans (hb3.mono hb2.size)) (Nat.le_refl _) _⟩
end
section

end
end Go.Proofs.YtfdimggmljkkbaaGreatDoor
