import Derived.Test.YtefjlobdifjogaaGreatDoorP24
open Go.Proofs.Tryz renaming prog → lA
open Go.World renaming setRow → lB
namespace Go.Proofs.YtefjlobdifjogaaGreatDoor
set_option maxRecDepth 100000
set_option maxHeartbeats 4000000
open Go.Lib renaming hid → iD
open Go.Proofs.Tryz
open Go.RowKit
abbrev cliZ:List Value:=[.pointer none,.int .i64 0,.string ⟨#[]⟩,.string ⟨#[]⟩,.int .i64 0,.nilFunc,.slice none 0 0,.bool false,.int .i64 0]
abbrev repZ:List Value:=[.slice none 0 0,.map none,.pointer none,.pointer none,.string ⟨#[]⟩,.bool false]
theorem Zb9(w:World):Calls lA 50 #[.pointer none] w fun e w'=>e=.returned (.bool false)/\w'=w:=by
 go_enter func50,ntmps50;go_wp2_with fail;go_returns;exact⟨rfl,rfl⟩
theorem Zmp(cb:Nat)(w:World)(hC:Blk w cb 34 cliZ):Calls lA 50 #[.pointer (some ⟨cb,0,none⟩)] w fun e w'=>e=.returned (.bool false)/\w'=w:=by
 have c0:w.cell? ⟨cb,0,none⟩=some (.pointer none):=hC.cell 0;clear hC;go_enter func50,ntmps50;go_wp2_with fail;go_returns;exact⟨rfl,rfl⟩
theorem Zmq(v:Value)(w:World)(hm:Calls lA 50 #[v] w fun e w'=>e=.returned (.bool false)/\w'=w):Calls lA 14 #[v] w fun e w'=>e=.returned (.string ⟨#[]⟩)/\w'=w:=by
 replace hm:=iD hm;go_enter func14,ntmps14;go_wp2_with fail;refine hm.out.mono ?_;rintro e w1 ⟨rfl,hw1⟩;rw[hw1];clear hw1 w1;go_wp2_with fail;go_returns;exact⟨rfl,rfl⟩
theorem Zba(v:Value)(w:World)(hm:Calls lA 50 #[v] w fun e w'=>e=.returned (.bool false)/\w'=w):Calls lA 13 #[v] w fun e w'=>e=.returned (.tuple #[.bool false,.int .i64 0])/\w'=w:=by
 replace hm:=iD hm;go_enter func13,ntmps13;go_wp2_with fail;refine hm.out.mono ?_;rintro e w1 ⟨rfl,hw1⟩;rw[hw1];clear hw1 w1;go_wp2_with fail;go_returns;exact⟨rfl,rfl⟩
theorem Zmr(v:Value)(s:ByteArray)(w:World)(hm:Calls lA 50 #[v] w fun e w'=>e=.returned (.bool false)/\w'=w):Calls lA 15 #[v,.string s] w fun e w'=>e=.returned (.bool false)/\w'=w:=by
 replace hm:=iD hm;go_enter func15,ntmps15;go_wp2_with fail;refine hm.out.mono ?_;rintro e w1 ⟨rfl,hw1⟩;rw[hw1];clear hw1 w1;go_wp2_with fail;go_returns;exact⟨rfl,rfl⟩
theorem Zms(w:World):Calls lA 98 #[.pointer none] w fun e w'=>e=.returned (.bool false)/\w'=w:=by
 go_enter func98,ntmps98;go_wp2_with fail;go_returns;exact⟨rfl,rfl⟩
theorem Zmt(r:Nat)(w:World)(hR:Blk w r 47 repZ):Calls lA 98 #[.pointer (some ⟨r,0,none⟩)] w fun e w'=>e=.returned (.bool false)/\w'=w:=by
 have c2:w.cell? ⟨r,2,none⟩=some (.pointer none):=hR.cell 2;clear hR;go_enter func98,ntmps98;go_wp2_with fail;go_returns;exact⟨rfl,rfl⟩
def Ux(v:Value)(w:World):Prop:=Calls lA 98 #[v] w fun e w'=>e=.returned (.bool false)/\w'=w
theorem Zmu(v:Value)(s:ByteArray)(w:World)(hm:Ux v w):Calls lA 80 #[v,.string s] w fun e w'=>e=.returned (.tuple #[Z0,.int .i64 2])/\w'=w:=by
 unfold Ux at hm;replace hm:=iD hm;go_enter func80,ntmps80;go_wp2_with fail;refine hm.out.mono ?_;rintro e w1 ⟨rfl,hw1⟩;rw[hw1];clear hw1 w1;go_wp2_with fail;go_returns;exact⟨rfl,rfl⟩
theorem Zmv(v:Value)(s:ByteArray)(w:World)(hm:Ux v w):Calls lA 27 #[v,.string s] w fun e w'=>e=.returned (.tuple #[.string ⟨#[]⟩,.int .i64 2])/\w'=w:=by
 have hv:=iD (Zmu v s w hm);clear hm;go_enter func27,ntmps27;go_wp2_with fail;refine hv.out.mono ?_;rintro e w1 ⟨rfl,hw1⟩;rw[hw1];clear hw1 w1;go_wp2_with fail;go_returns;exact⟨rfl,rfl⟩
theorem Zbb(v:Value)(w:World)(hm:Ux v w):Calls lA 51 #[v] w fun e w'=>e=.returned (.bool false)/\w'=w:=by
 have hv:=iD (Zmv v ⟨#[]⟩ w hm);clear hm;go_enter func51,ntmps51;go_wp2_with fail;refine hv.out.mono ?_;rintro e w1 ⟨rfl,hw1⟩;rw[hw1];clear hw1 w1;go_wp2_with fail;go_returns;exact⟨rfl,rfl⟩
theorem Zbc(v:Value)(ses:Int)(s:ByteArray)(w:World)(hm:Ux v w):Calls lA 54 #[v,.int .i64 ses,.string s] w fun e w'=>e=.returned (.tuple #[.pointer none,.int .i64 2])/\w'=w:=by
 have hv:=iD (Zbb v w hm);clear hm;go_enter func54,ntmps54;go_wp2_with fail;refine hv.out.mono ?_;rintro e w1 ⟨rfl,hw1⟩;rw[hw1];clear hw1 w1;go_wp2_with fail;go_returns;exact⟨rfl,rfl⟩
theorem Zmw(v:Value)(ses:Int)(s:ByteArray)(w:World)(hm:Ux v w):Calls lA 17 #[v,.int .i64 ses,.string s] w fun e w'=>e=.returned (.tuple #[.pointer none,.int .i64 2])/\w'=w:=by
 have hv:=iD (Zbc v ses s w hm);clear hm;go_enter func17,ntmps17;go_wp2_with fail;refine hv.out.mono ?_;rintro e w1 ⟨rfl,hw1⟩;rw[hw1];clear hw1 w1;go_wp2_with fail;go_returns;exact⟨rfl,rfl⟩
theorem Zmx(v:Value)(ses:Int)(s:ByteArray)(w:World)(hm:Ux v w):Calls lA 18 #[v,.int .i64 ses,.string s] w fun e w'=>e=.returned (.tuple #[.pointer none,.int .i64 2])/\w'=w:=by
 have hv:=iD (Zbc v ses s w hm);clear hm;go_enter func18,ntmps18;go_wp2_with fail;refine hv.out.mono ?_;rintro e w1 ⟨rfl,hw1⟩;rw[hw1];clear hw1 w1;go_wp2_with fail;go_returns;exact⟨rfl,rfl⟩
theorem Zmy(v:Value)(s:Str)(w:World)(hl:s.length<=140737488355328)(hm:∀ W,Below w.heap.size w W->Ux v W)(hK:Zm w):Calls lA 16 #[v,.string ⟨s.toArray⟩] w fun e w'=>e=.returned (.tuple #[.string ⟨#[]⟩,.bool false])/\Below w.heap.size w w':=by
 have hr:=Z2t s hl w hK;have hop:=iD (fun W hb=>Zbb v W (hm W hb));replace hr:=iD hr;clear hm;go_enter func16,ntmps16;go_wp2_with fail;refine hr.out.mono ?_;rintro e w1 ⟨hb1,⟨m,o,n,_,rfl,_⟩ | ⟨_,er,her,rfl⟩⟩
 ·rename_i hrest;obtain⟨ho,hn,_,_⟩:=hrest;obtain⟨A1,c1,rfl,_,_⟩:=Za ho;obtain⟨A2,c2,rfl,_,_⟩:=Za hn;clear ho hn;obtain⟨ML,hML⟩:∃ ML,ML=Zx m (.slice A1 m.old.length c1) (.slice A2 m.new.length c2):=⟨_,rfl⟩;have hsz:(lA.info? 25).map (·.size)=some ML.length:=by rw[hML];exact Xf _ _ _
  have hlen:Zk.length=ML.length:=by rw[hML];rfl
  have hone:∀ v ∈ ML,v.oneCell'=true:=by rw[hML];simp[Zx,Value.oneCell']
  rw[<-hML];replace hML:=iD hML;replace hsz:=iD hsz;replace hlen:=iD hlen;replace hone:=iD hone;go_upto_region 2 with (first
   | (refine Zd rfl 25 (.tmp 6) (.tmp 15) rfl w1.heap.size ML rfl rfl 25 Zk (Blk.new_at rfl) hlen.out hsz.out hone.out ?_;go_frame)
   | fail)
  generalize hW2:lB _ _ _=w2;have hb12:Below w1.heap.size w1 w2:=by rw[<-hW2];exact below_setRow bL (Nat.le_refl _) _
  have hb2:=iD (hb1.trans (hb12.mono hb1.size));clear hW2 hb12 hb1 hr;go_wp2_with fail;refine (hop.out w2 hb2.out).mono ?_;rintro e wz ⟨rfl,hwz⟩;rw[hwz];clear hwz wz;go_wp2_with fail;go_returns;exact⟨rfl,hb2.out⟩
 ·obtain⟨ML,hML⟩:∃ ML,ML=Zk:=⟨_,rfl⟩;have hsz:(lA.info? 25).map (·.size)=some ML.length:=by rw[hML];exact Xf Xr Z0 Z0
  have hlen:Zk.length=ML.length:=by rw[hML]
  have hone:∀ v ∈ ML,v.oneCell'=true:=by rw[hML];exact U1
  rw[<-hML];have hne:(er != 0)=true:=by simpa using her
  replace hML:=iD hML;replace hsz:=iD hsz;replace hlen:=iD hlen;replace hone:=iD hone;go_upto_region 2 with (first
   | (refine Zd rfl 25 (.tmp 6) (.tmp 15) rfl w1.heap.size ML rfl rfl 25 Zk (Blk.new_at rfl) hlen.out hsz.out hone.out ?_;go_frame)
   | fail)
  generalize hW2:lB _ _ _=w2;have hb12:Below w1.heap.size w1 w2:=by rw[<-hW2];exact below_setRow bL (Nat.le_refl _) _
  have hb2:=iD (hb1.trans (hb12.mono hb1.size));clear hW2 hb12 hb1 hr;go_wp2_with fail;go_returns;exact⟨rfl,hb2.out⟩
end Go.Proofs.YtefjlobdifjogaaGreatDoor
