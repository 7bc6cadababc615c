import Derived.Test.YtfdimggmljkkbaaGreatDoorP25
namespace Go.Proofs.YtfdimggmljkkbaaGreatDoor
section

end
section

end
section

end
section

end
section
set_option maxRecDepth 100000
set_option maxHeartbeats 4000000
open Go.Lib renaming hid → iD
open Go.Proofs.Tryz
open Go.RowKit
theorem Zov(w:World):Calls Tryz.prog 149 #[.int .i64 16777216] w fun e w'=>∃ g,e=.returned (.pointer (some ⟨g,0,none⟩))/\Ses w (w.heap.size<=·) g (DS.new 16777216) w':=by
 have hn:=iD (Zjm 16777216 w (by omega) (by omega));go_enter func149,ntmps149;go_wp2_with fail;refine hn.out.mono ?_;rintro e w2 ⟨g,L,rfl,hD,hL,hb⟩;have hS:Hid (Ses w (w.heap.size<=·) g (DS.new 16777216) w2):=iD ⟨Z3k hb (fun i h1 _=>h1),fun i hi=>Nat.le_trans hb.size hi,L,hD,hL⟩;clear hn hD hL hb;go_wp2_with fail;go_returns;exact⟨g,rfl,hS.out⟩
end
end Go.Proofs.YtfdimggmljkkbaaGreatDoor
