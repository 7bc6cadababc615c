/-
  NARROWER THAN 'FOR EVERY INPUT', by the rows' own cells (each row's printed sentence says how): SyncSames: laid · SyncNobody: laid · SyncBack: laid · SyncSpoilt: laid · WorldNobody: laid · RepoNobody: laid.
  DERIVED. THE GIVEN ROWS OF THIS SEAT. 6 by the template 'for every input the law returns true; each argument reads behind the call as it read before'; 0 by the template 'total and deterministic' (their statements: YtefjlobdifjogaaGreatDoorTotals.lean).
  GIVEN WITH THE SEED: the statements are not yours to turn. If you find one false, say at which input.
  Laid BY PROGRAM, IN A SANDBOX (cutbox-rows.mjs): the forced cells as the released guide's own fill.sh prints them over the translation 3b1f448e2fa5285f… (all of the seat's roots in one cut). By AI agents, Wed Nov 11 2026. No macro, syntax, notation, axiom, sorry.
-/
import Derived.Test.YtefjlobdifjogaaGreatDoorChecked
import GoSem.PinnedTables
import GoSem.Claim
import GoSem.ClaimJoined
import GoSem.ClaimMapViews
import Derived.JoinedTies
import Derived.KernelRfl
namespace Go.Proofs.YtefjlobdifjogaaGreatDoor
/- THE CELL 'sum', in the pinned program and in every row, IS THE sha256 OF THE DUMP (.gsa) THAT YtefjlobdifjogaaGreatDoorProg.lean LOADS. Nothing in Lean hashes anything: it is a label: what it is worth is what the hold of that sum in a sandbox is worth. -/
noncomputable def Tryz.pinned : Pinned := { name := "ytefjlobdifjogaagreatdoor", sum := "3b1f448e2fa5285f862bbc6340ee1af51ac8df4e33037309d0215c7a00ae3e00", checked := Tryz.checked }
namespace Rows
def none {H : Type} : Left H := { results := [], args := [] }

/- WHAT THE LISTED PACKAGE-LEVEL VARIABLES READ AS WHEN THE CALL BEGINS. Each datum BY PROGRAM (the guide's laid-datum.mjs) off the statement by which the dump's own 'gosem.cut.vars' lays the variable. In a bare row this is a premise. The card (YtefjlobdifjogaaGreatDoorCards.lean) ties it to the program's text. -/
def laid_unicode_utf8_acceptRanges {H : Type} : DataW H := .agg [.agg [.lit (.int .u8 128), .lit (.int .u8 191)], .agg [.lit (.int .u8 160), .lit (.int .u8 191)], .agg [.lit (.int .u8 128), .lit (.int .u8 159)], .agg [.lit (.int .u8 144), .lit (.int .u8 191)], .agg [.lit (.int .u8 128), .lit (.int .u8 143)], .agg [.lit (.int .u8 0), .lit (.int .u8 0)], .agg [.lit (.int .u8 0), .lit (.int .u8 0)], .agg [.lit (.int .u8 0), .lit (.int .u8 0)], .agg [.lit (.int .u8 0), .lit (.int .u8 0)], .agg [.lit (.int .u8 0), .lit (.int .u8 0)], .agg [.lit (.int .u8 0), .lit (.int .u8 0)], .agg [.lit (.int .u8 0), .lit (.int .u8 0)], .agg [.lit (.int .u8 0), .lit (.int .u8 0)], .agg [.lit (.int .u8 0), .lit (.int .u8 0)], .agg [.lit (.int .u8 0), .lit (.int .u8 0)], .agg [.lit (.int .u8 0), .lit (.int .u8 0)]]
def laid_recension_digest_keys {H : Type} : DataW H := .agg [.lit (.int .u32 1116352408), .lit (.int .u32 1899447441), .lit (.int .u32 3049323471), .lit (.int .u32 3921009573), .lit (.int .u32 961987163), .lit (.int .u32 1508970993), .lit (.int .u32 2453635748), .lit (.int .u32 2870763221), .lit (.int .u32 3624381080), .lit (.int .u32 310598401), .lit (.int .u32 607225278), .lit (.int .u32 1426881987), .lit (.int .u32 1925078388), .lit (.int .u32 2162078206), .lit (.int .u32 2614888103), .lit (.int .u32 3248222580), .lit (.int .u32 3835390401), .lit (.int .u32 4022224774), .lit (.int .u32 264347078), .lit (.int .u32 604807628), .lit (.int .u32 770255983), .lit (.int .u32 1249150122), .lit (.int .u32 1555081692), .lit (.int .u32 1996064986), .lit (.int .u32 2554220882), .lit (.int .u32 2821834349), .lit (.int .u32 2952996808), .lit (.int .u32 3210313671), .lit (.int .u32 3336571891), .lit (.int .u32 3584528711), .lit (.int .u32 113926993), .lit (.int .u32 338241895), .lit (.int .u32 666307205), .lit (.int .u32 773529912), .lit (.int .u32 1294757372), .lit (.int .u32 1396182291), .lit (.int .u32 1695183700), .lit (.int .u32 1986661051), .lit (.int .u32 2177026350), .lit (.int .u32 2456956037), .lit (.int .u32 2730485921), .lit (.int .u32 2820302411), .lit (.int .u32 3259730800), .lit (.int .u32 3345764771), .lit (.int .u32 3516065817), .lit (.int .u32 3600352804), .lit (.int .u32 4094571909), .lit (.int .u32 275423344), .lit (.int .u32 430227734), .lit (.int .u32 506948616), .lit (.int .u32 659060556), .lit (.int .u32 883997877), .lit (.int .u32 958139571), .lit (.int .u32 1322822218), .lit (.int .u32 1537002063), .lit (.int .u32 1747873779), .lit (.int .u32 1955562222), .lit (.int .u32 2024104815), .lit (.int .u32 2227730452), .lit (.int .u32 2361852424), .lit (.int .u32 2428436474), .lit (.int .u32 2756734187), .lit (.int .u32 3204031479), .lit (.int .u32 3329325298)]
/-- One of Go's own tables, pinned by name: the form's constant. -/
def laid_unicode_utf8_first : DataW Unit := Go.Pinned.utf8First

/-- 'recensionlaw16.SyncSames': WHATEVER THE INPUT: true; the input reads as it did. -/
def syncSamesSpec : ChangeSpec := { name := "syncSames", fn := fun _ => fun
  | [d1, d2] => { results := [.lit (.bool true)], args := [d1, d2] }
  | _ => none }
def syncSamesRow : OpenClaim := { program := "ytefjlobdifjogaagreatdoor", sum := "3b1f448e2fa5285f862bbc6340ee1af51ac8df4e33037309d0215c7a00ae3e00", func := "recension/recensionlaw16.SyncSames", spec := "syncSames", inPlace := ["maps.clone", "internal/bytealg.IndexByteString", "internal/bytealg.CountString", "internal/bytealg.IndexString", "internal/abi.NoEscape", "internal/bytealg.abigen_runtime_cmpstring", "slices.overlaps[*recension/fugue.node]", "slices.overlaps[recension/api.Branch]"], unfollowed := true, recurses := true, named := ["unicode/utf8.first", "unicode/utf8.acceptRanges", "internal/bytealg.MaxLen", "recension/digest.keys"], plainKeys := false, apart := false, laid := [("unicode/utf8.acceptRanges", laid_unicode_utf8_acceptRanges), ("recension/digest.keys", laid_recension_digest_keys), ("unicode/utf8.first", laid_unicode_utf8_first)] }
def SyncSamesSaid : Prop := syncSamesRow.holds Tryz.pinned (OpenSpec.ofChange syncSamesSpec)

/-- ITS FALSE NEIGHBOUR: 'it returns false'. Refute it at one input. -/
def syncSamesWrong : ChangeSpec := { name := "syncSames", fn := fun _ => fun
  | [d1, d2] => { results := [.lit (.bool false)], args := [d1, d2] }
  | _ => none }
def SyncSamesWrongFalsely : Prop := syncSamesRow.holds Tryz.pinned (OpenSpec.ofChange syncSamesWrong)

/-- 'recensionlaw16.SyncNobody': WHATEVER THE INPUT: true; the input reads as it did. -/
def syncNobodySpec : ChangeSpec := { name := "syncNobody", fn := fun _ => fun
  | [d1, d2, d3] => { results := [.lit (.bool true)], args := [d1, d2, d3] }
  | _ => none }
def syncNobodyRow : OpenClaim := { program := "ytefjlobdifjogaagreatdoor", sum := "3b1f448e2fa5285f862bbc6340ee1af51ac8df4e33037309d0215c7a00ae3e00", func := "recension/recensionlaw16.SyncNobody", spec := "syncNobody", inPlace := ["internal/bytealg.IndexByteString", "internal/bytealg.abigen_runtime_cmpstring", "slices.overlaps[*recension/fugue.node]", "slices.overlaps[recension/api.Branch]", "internal/abi.NoEscape", "maps.clone", "internal/bytealg.CountString", "internal/bytealg.IndexString"], unfollowed := true, recurses := true, named := ["recension/digest.keys", "unicode/utf8.first", "unicode/utf8.acceptRanges", "internal/bytealg.MaxLen"], plainKeys := false, apart := false, laid := [("unicode/utf8.acceptRanges", laid_unicode_utf8_acceptRanges), ("recension/digest.keys", laid_recension_digest_keys), ("unicode/utf8.first", laid_unicode_utf8_first)] }
def SyncNobodySaid : Prop := syncNobodyRow.holds Tryz.pinned (OpenSpec.ofChange syncNobodySpec)

/-- ITS FALSE NEIGHBOUR: 'it returns false'. Refute it at one input. -/
def syncNobodyWrong : ChangeSpec := { name := "syncNobody", fn := fun _ => fun
  | [d1, d2, d3] => { results := [.lit (.bool false)], args := [d1, d2, d3] }
  | _ => none }
def SyncNobodyWrongFalsely : Prop := syncNobodyRow.holds Tryz.pinned (OpenSpec.ofChange syncNobodyWrong)

/-- 'recensionlaw16.SyncBack': WHATEVER THE INPUT: true; the input reads as it did. -/
def syncBackSpec : ChangeSpec := { name := "syncBack", fn := fun _ => fun
  | [d1, d2] => { results := [.lit (.bool true)], args := [d1, d2] }
  | _ => none }
def syncBackRow : OpenClaim := { program := "ytefjlobdifjogaagreatdoor", sum := "3b1f448e2fa5285f862bbc6340ee1af51ac8df4e33037309d0215c7a00ae3e00", func := "recension/recensionlaw16.SyncBack", spec := "syncBack", inPlace := ["internal/bytealg.IndexByteString", "maps.clone", "internal/bytealg.CountString", "internal/bytealg.IndexString", "internal/abi.NoEscape", "internal/bytealg.abigen_runtime_cmpstring", "slices.overlaps[*recension/fugue.node]", "slices.overlaps[recension/api.Branch]"], unfollowed := true, recurses := true, named := ["recension/digest.keys", "unicode/utf8.first", "unicode/utf8.acceptRanges", "internal/bytealg.MaxLen"], plainKeys := false, apart := false, laid := [("unicode/utf8.acceptRanges", laid_unicode_utf8_acceptRanges), ("recension/digest.keys", laid_recension_digest_keys), ("unicode/utf8.first", laid_unicode_utf8_first)] }
def SyncBackSaid : Prop := syncBackRow.holds Tryz.pinned (OpenSpec.ofChange syncBackSpec)

/-- ITS FALSE NEIGHBOUR: 'it returns false'. Refute it at one input. -/
def syncBackWrong : ChangeSpec := { name := "syncBack", fn := fun _ => fun
  | [d1, d2] => { results := [.lit (.bool false)], args := [d1, d2] }
  | _ => none }
def SyncBackWrongFalsely : Prop := syncBackRow.holds Tryz.pinned (OpenSpec.ofChange syncBackWrong)

/-- 'recensionlaw16.SyncSpoilt': WHATEVER THE INPUT: true; the input reads as it did. -/
def syncSpoiltSpec : ChangeSpec := { name := "syncSpoilt", fn := fun _ => fun
  | [d1, d2, d3] => { results := [.lit (.bool true)], args := [d1, d2, d3] }
  | _ => none }
def syncSpoiltRow : OpenClaim := { program := "ytefjlobdifjogaagreatdoor", sum := "3b1f448e2fa5285f862bbc6340ee1af51ac8df4e33037309d0215c7a00ae3e00", func := "recension/recensionlaw16.SyncSpoilt", spec := "syncSpoilt", inPlace := ["internal/bytealg.IndexByteString", "maps.clone", "internal/bytealg.CountString", "internal/bytealg.IndexString", "internal/abi.NoEscape", "internal/bytealg.abigen_runtime_cmpstring", "slices.overlaps[*recension/fugue.node]", "slices.overlaps[recension/api.Branch]"], unfollowed := true, recurses := true, named := ["recension/digest.keys", "unicode/utf8.first", "unicode/utf8.acceptRanges", "internal/bytealg.MaxLen"], plainKeys := false, apart := false, laid := [("unicode/utf8.acceptRanges", laid_unicode_utf8_acceptRanges), ("recension/digest.keys", laid_recension_digest_keys), ("unicode/utf8.first", laid_unicode_utf8_first)] }
def SyncSpoiltSaid : Prop := syncSpoiltRow.holds Tryz.pinned (OpenSpec.ofChange syncSpoiltSpec)

/-- ITS FALSE NEIGHBOUR: 'it returns false'. Refute it at one input. -/
def syncSpoiltWrong : ChangeSpec := { name := "syncSpoilt", fn := fun _ => fun
  | [d1, d2, d3] => { results := [.lit (.bool false)], args := [d1, d2, d3] }
  | _ => none }
def SyncSpoiltWrongFalsely : Prop := syncSpoiltRow.holds Tryz.pinned (OpenSpec.ofChange syncSpoiltWrong)

/-- 'recensionlaw17.WorldNobody': WHATEVER THE INPUT: true; the input reads as it did. -/
def worldNobodySpec : ChangeSpec := { name := "worldNobody", fn := fun _ => fun
  | [d] => { results := [.lit (.bool true)], args := [d] }
  | _ => none }
def worldNobodyRow : OpenClaim := { program := "ytefjlobdifjogaagreatdoor", sum := "3b1f448e2fa5285f862bbc6340ee1af51ac8df4e33037309d0215c7a00ae3e00", func := "recension/recensionlaw17.WorldNobody", spec := "worldNobody", inPlace := ["internal/bytealg.IndexByteString", "internal/bytealg.abigen_runtime_cmpstring", "slices.overlaps[*recension/fugue.node]", "slices.overlaps[recension/api.Branch]", "internal/abi.NoEscape", "maps.clone", "internal/bytealg.CountString", "internal/bytealg.IndexString"], unfollowed := true, recurses := true, named := ["recension/digest.keys", "unicode/utf8.first", "unicode/utf8.acceptRanges", "internal/bytealg.MaxLen"], plainKeys := false, apart := false, laid := [("unicode/utf8.acceptRanges", laid_unicode_utf8_acceptRanges), ("recension/digest.keys", laid_recension_digest_keys), ("unicode/utf8.first", laid_unicode_utf8_first)] }
def WorldNobodySaid : Prop := worldNobodyRow.holds Tryz.pinned (OpenSpec.ofChange worldNobodySpec)

/-- ITS FALSE NEIGHBOUR: 'it returns false'. Refute it at one input. -/
def worldNobodyWrong : ChangeSpec := { name := "worldNobody", fn := fun _ => fun
  | [d] => { results := [.lit (.bool false)], args := [d] }
  | _ => none }
def WorldNobodyWrongFalsely : Prop := worldNobodyRow.holds Tryz.pinned (OpenSpec.ofChange worldNobodyWrong)

/-- 'recensionlaw15.RepoNobody': WHATEVER THE INPUT: true; the input reads as it did. -/
def repoNobodySpec : ChangeSpec := { name := "repoNobody", fn := fun _ => fun
  | [d] => { results := [.lit (.bool true)], args := [d] }
  | _ => none }
def repoNobodyRow : OpenClaim := { program := "ytefjlobdifjogaagreatdoor", sum := "3b1f448e2fa5285f862bbc6340ee1af51ac8df4e33037309d0215c7a00ae3e00", func := "recension/recensionlaw15.RepoNobody", spec := "repoNobody", inPlace := ["internal/bytealg.abigen_runtime_cmpstring", "internal/bytealg.IndexByteString", "slices.overlaps[*recension/fugue.node]", "slices.overlaps[recension/api.Branch]", "internal/abi.NoEscape", "maps.clone", "internal/bytealg.CountString", "internal/bytealg.IndexString"], unfollowed := true, recurses := true, named := ["recension/digest.keys", "unicode/utf8.first", "unicode/utf8.acceptRanges", "internal/bytealg.MaxLen"], plainKeys := false, apart := false, laid := [("unicode/utf8.acceptRanges", laid_unicode_utf8_acceptRanges), ("recension/digest.keys", laid_recension_digest_keys), ("unicode/utf8.first", laid_unicode_utf8_first)] }
def RepoNobodySaid : Prop := repoNobodyRow.holds Tryz.pinned (OpenSpec.ofChange repoNobodySpec)

/-- ITS FALSE NEIGHBOUR: 'it returns false'. Refute it at one input. -/
def repoNobodyWrong : ChangeSpec := { name := "repoNobody", fn := fun _ => fun
  | [d] => { results := [.lit (.bool false)], args := [d] }
  | _ => none }
def RepoNobodyWrongFalsely : Prop := repoNobodyRow.holds Tryz.pinned (OpenSpec.ofChange repoNobodyWrong)

/- THE SECOND FORM. 'bulk': how many values and letters a reading holds, each counted each time it is reached (what is shared counts as often as it is met; a slice's spare places count too). A statement '..UptoSaid' is the law's where the arguments, and the package variables that the reading takes, are together of bulk at most 1048576: NARROWER than '..Said'. Prove '..Said' where nothing that the law and all that it calls make is longer than what came in: it says more and counts as full. Else prove '..UptoSaid'. A law counts once. -/
mutual
def uptoBulk {H : Type} : DataW H → Nat
  | .lit (.string bytes) => bytes.length + 1
  | .lit _ => 1
  | .nil => 1
  | .ptr d => uptoBulk d + 1
  | .slice elems spare => uptoBulkAll elems + uptoBulkAll spare + 1
  | .agg parts => uptoBulkAll parts + 1
  | .iface _ d => uptoBulk d + 1
  | .map entries => uptoBulkEntries entries + 1
  | .held _ => 1
def uptoBulkAll {H : Type} : List (DataW H) → Nat
  | [] => 0
  | d :: r => uptoBulk d + uptoBulkAll r
def uptoBulkEntries {H : Type} : List (Lit × DataW H) → Nat
  | [] => 0
  | x :: r => uptoBulkEntry x + uptoBulkEntries r
def uptoBulkEntry {H : Type} : Lit × DataW H → Nat
  | (.string bytes, d) => bytes.length + uptoBulk d + 1
  | (_, d) => uptoBulk d + 1
 end
def uptoSmall : (H : Type) → List (DataW H) → Bool := fun _ ds => decide (uptoBulkAll ds ≤ 1048576)
def OpenSpec.upto (s : _root_.Go.ChangeSpec) : _root_.Go.OpenSpec := { _root_.Go.OpenSpec.ofChange s with cond := some uptoSmall }

/-- 'recensionlaw16.SyncSames', WHERE WHAT IT READS IS OF BULK AT MOST 1048576: true; the input reads as it did. -/
def syncSamesUptoRow : OpenClaim := { program := "ytefjlobdifjogaagreatdoor", sum := "3b1f448e2fa5285f862bbc6340ee1af51ac8df4e33037309d0215c7a00ae3e00", func := "recension/recensionlaw16.SyncSames", spec := "syncSames", inPlace := ["maps.clone", "internal/bytealg.IndexByteString", "internal/bytealg.CountString", "internal/bytealg.IndexString", "internal/abi.NoEscape", "internal/bytealg.abigen_runtime_cmpstring", "slices.overlaps[*recension/fugue.node]", "slices.overlaps[recension/api.Branch]"], unfollowed := true, recurses := true, named := ["unicode/utf8.first", "unicode/utf8.acceptRanges", "internal/bytealg.MaxLen", "recension/digest.keys"], plainKeys := false, apart := false, laid := [("unicode/utf8.acceptRanges", laid_unicode_utf8_acceptRanges), ("recension/digest.keys", laid_recension_digest_keys), ("unicode/utf8.first", laid_unicode_utf8_first)], narrowed := true }
def SyncSamesUptoSaid : Prop := syncSamesUptoRow.holds Tryz.pinned (OpenSpec.upto syncSamesSpec)

/-- 'recensionlaw16.SyncNobody', WHERE WHAT IT READS IS OF BULK AT MOST 1048576: true; the input reads as it did. -/
def syncNobodyUptoRow : OpenClaim := { program := "ytefjlobdifjogaagreatdoor", sum := "3b1f448e2fa5285f862bbc6340ee1af51ac8df4e33037309d0215c7a00ae3e00", func := "recension/recensionlaw16.SyncNobody", spec := "syncNobody", inPlace := ["internal/bytealg.IndexByteString", "internal/bytealg.abigen_runtime_cmpstring", "slices.overlaps[*recension/fugue.node]", "slices.overlaps[recension/api.Branch]", "internal/abi.NoEscape", "maps.clone", "internal/bytealg.CountString", "internal/bytealg.IndexString"], unfollowed := true, recurses := true, named := ["recension/digest.keys", "unicode/utf8.first", "unicode/utf8.acceptRanges", "internal/bytealg.MaxLen"], plainKeys := false, apart := false, laid := [("unicode/utf8.acceptRanges", laid_unicode_utf8_acceptRanges), ("recension/digest.keys", laid_recension_digest_keys), ("unicode/utf8.first", laid_unicode_utf8_first)], narrowed := true }
def SyncNobodyUptoSaid : Prop := syncNobodyUptoRow.holds Tryz.pinned (OpenSpec.upto syncNobodySpec)

/-- 'recensionlaw16.SyncBack', WHERE WHAT IT READS IS OF BULK AT MOST 1048576: true; the input reads as it did. -/
def syncBackUptoRow : OpenClaim := { program := "ytefjlobdifjogaagreatdoor", sum := "3b1f448e2fa5285f862bbc6340ee1af51ac8df4e33037309d0215c7a00ae3e00", func := "recension/recensionlaw16.SyncBack", spec := "syncBack", inPlace := ["internal/bytealg.IndexByteString", "maps.clone", "internal/bytealg.CountString", "internal/bytealg.IndexString", "internal/abi.NoEscape", "internal/bytealg.abigen_runtime_cmpstring", "slices.overlaps[*recension/fugue.node]", "slices.overlaps[recension/api.Branch]"], unfollowed := true, recurses := true, named := ["recension/digest.keys", "unicode/utf8.first", "unicode/utf8.acceptRanges", "internal/bytealg.MaxLen"], plainKeys := false, apart := false, laid := [("unicode/utf8.acceptRanges", laid_unicode_utf8_acceptRanges), ("recension/digest.keys", laid_recension_digest_keys), ("unicode/utf8.first", laid_unicode_utf8_first)], narrowed := true }
def SyncBackUptoSaid : Prop := syncBackUptoRow.holds Tryz.pinned (OpenSpec.upto syncBackSpec)

/-- 'recensionlaw16.SyncSpoilt', WHERE WHAT IT READS IS OF BULK AT MOST 1048576: true; the input reads as it did. -/
def syncSpoiltUptoRow : OpenClaim := { program := "ytefjlobdifjogaagreatdoor", sum := "3b1f448e2fa5285f862bbc6340ee1af51ac8df4e33037309d0215c7a00ae3e00", func := "recension/recensionlaw16.SyncSpoilt", spec := "syncSpoilt", inPlace := ["internal/bytealg.IndexByteString", "maps.clone", "internal/bytealg.CountString", "internal/bytealg.IndexString", "internal/abi.NoEscape", "internal/bytealg.abigen_runtime_cmpstring", "slices.overlaps[*recension/fugue.node]", "slices.overlaps[recension/api.Branch]"], unfollowed := true, recurses := true, named := ["recension/digest.keys", "unicode/utf8.first", "unicode/utf8.acceptRanges", "internal/bytealg.MaxLen"], plainKeys := false, apart := false, laid := [("unicode/utf8.acceptRanges", laid_unicode_utf8_acceptRanges), ("recension/digest.keys", laid_recension_digest_keys), ("unicode/utf8.first", laid_unicode_utf8_first)], narrowed := true }
def SyncSpoiltUptoSaid : Prop := syncSpoiltUptoRow.holds Tryz.pinned (OpenSpec.upto syncSpoiltSpec)

/-- 'recensionlaw17.WorldNobody', WHERE WHAT IT READS IS OF BULK AT MOST 1048576: true; the input reads as it did. -/
def worldNobodyUptoRow : OpenClaim := { program := "ytefjlobdifjogaagreatdoor", sum := "3b1f448e2fa5285f862bbc6340ee1af51ac8df4e33037309d0215c7a00ae3e00", func := "recension/recensionlaw17.WorldNobody", spec := "worldNobody", inPlace := ["internal/bytealg.IndexByteString", "internal/bytealg.abigen_runtime_cmpstring", "slices.overlaps[*recension/fugue.node]", "slices.overlaps[recension/api.Branch]", "internal/abi.NoEscape", "maps.clone", "internal/bytealg.CountString", "internal/bytealg.IndexString"], unfollowed := true, recurses := true, named := ["recension/digest.keys", "unicode/utf8.first", "unicode/utf8.acceptRanges", "internal/bytealg.MaxLen"], plainKeys := false, apart := false, laid := [("unicode/utf8.acceptRanges", laid_unicode_utf8_acceptRanges), ("recension/digest.keys", laid_recension_digest_keys), ("unicode/utf8.first", laid_unicode_utf8_first)], narrowed := true }
def WorldNobodyUptoSaid : Prop := worldNobodyUptoRow.holds Tryz.pinned (OpenSpec.upto worldNobodySpec)

/-- 'recensionlaw15.RepoNobody', WHERE WHAT IT READS IS OF BULK AT MOST 1048576: true; the input reads as it did. -/
def repoNobodyUptoRow : OpenClaim := { program := "ytefjlobdifjogaagreatdoor", sum := "3b1f448e2fa5285f862bbc6340ee1af51ac8df4e33037309d0215c7a00ae3e00", func := "recension/recensionlaw15.RepoNobody", spec := "repoNobody", inPlace := ["internal/bytealg.abigen_runtime_cmpstring", "internal/bytealg.IndexByteString", "slices.overlaps[*recension/fugue.node]", "slices.overlaps[recension/api.Branch]", "internal/abi.NoEscape", "maps.clone", "internal/bytealg.CountString", "internal/bytealg.IndexString"], unfollowed := true, recurses := true, named := ["recension/digest.keys", "unicode/utf8.first", "unicode/utf8.acceptRanges", "internal/bytealg.MaxLen"], plainKeys := false, apart := false, laid := [("unicode/utf8.acceptRanges", laid_unicode_utf8_acceptRanges), ("recension/digest.keys", laid_recension_digest_keys), ("unicode/utf8.first", laid_unicode_utf8_first)], narrowed := true }
def RepoNobodyUptoSaid : Prop := repoNobodyUptoRow.holds Tryz.pinned (OpenSpec.upto repoNobodySpec)

end Rows
end Go.Proofs.YtefjlobdifjogaaGreatDoor
