/-
  NARROWER THAN 'FOR EVERY INPUT', by the rows' own cells (each row's printed sentence says how): CheckSounds: laid · AllocLays: laid · BmapHoles: laid · DirsAsk: laid · DirsFull: laid · BmapReads: laid · BmapSound: laid · BmapFrees: laid · DirsKeep: laid.
  DERIVED. THE GIVEN ROWS OF THIS SEAT. 9 by the template 'for every input the law returns true; each argument reads behind the call as it read before'; 0 by the template 'total and deterministic' (their statements: YtaphcmcimoloiaaGreatDoorTotals.lean).
  GIVEN WITH THE SEED: the statements are not yours to turn. If you find one false, say at which input.
  Laid BY PROGRAM, IN A SANDBOX (cutbox-rows.mjs): the forced cells as the released guide's own fill.sh prints them over the translation 0fd737b25fe66836… (all of the seat's roots in one cut). By AI agents, Wed Nov 11 2026. No macro, syntax, notation, axiom, sorry.
-/
import Derived.Test.YtaphcmcimoloiaaGreatDoorChecked
import GoSem.PinnedTables
import GoSem.Claim
import GoSem.ClaimJoined
import GoSem.ClaimMapViews
import Derived.JoinedTies
import Derived.KernelRfl
namespace Go.Proofs.YtaphcmcimoloiaaGreatDoor
/- THE CELL 'sum', in the pinned program and in every row, IS THE sha256 OF THE DUMP (.gsa) THAT YtaphcmcimoloiaaGreatDoorProg.lean LOADS. Nothing in Lean hashes anything: it is a label: what it is worth is what the hold of that sum in a sandbox is worth. -/
noncomputable def Tryz.pinned : Pinned := { name := "ytaphcmcimoloiaagreatdoor", sum := "0fd737b25fe66836da62ba53ab127b5ea12acb12ee0fecd1022909795792f2f3", checked := Tryz.checked }
namespace Rows
def none {H : Type} : Left H := { results := [], args := [] }

/- WHAT THE LISTED PACKAGE-LEVEL VARIABLES READ AS WHEN THE CALL BEGINS. Each datum BY PROGRAM (the guide's laid-datum.mjs) off the statement by which the dump's own 'gosem.cut.vars' lays the variable. In a bare row this is a premise. The card (YtaphcmcimoloiaaGreatDoorCards.lean) ties it to the program's text. -/
def laid_unicode_utf8_acceptRanges {H : Type} : DataW H := .agg [.agg [.lit (.int .u8 128), .lit (.int .u8 191)], .agg [.lit (.int .u8 160), .lit (.int .u8 191)], .agg [.lit (.int .u8 128), .lit (.int .u8 159)], .agg [.lit (.int .u8 144), .lit (.int .u8 191)], .agg [.lit (.int .u8 128), .lit (.int .u8 143)], .agg [.lit (.int .u8 0), .lit (.int .u8 0)], .agg [.lit (.int .u8 0), .lit (.int .u8 0)], .agg [.lit (.int .u8 0), .lit (.int .u8 0)], .agg [.lit (.int .u8 0), .lit (.int .u8 0)], .agg [.lit (.int .u8 0), .lit (.int .u8 0)], .agg [.lit (.int .u8 0), .lit (.int .u8 0)], .agg [.lit (.int .u8 0), .lit (.int .u8 0)], .agg [.lit (.int .u8 0), .lit (.int .u8 0)], .agg [.lit (.int .u8 0), .lit (.int .u8 0)], .agg [.lit (.int .u8 0), .lit (.int .u8 0)], .agg [.lit (.int .u8 0), .lit (.int .u8 0)]]
/-- One of Go's own tables, pinned by name: the form's constant. -/
def laid_unicode_utf8_first : DataW Unit := Go.Pinned.utf8First

/-- 'cutwaterlaw19.CheckSounds': WHATEVER THE INPUT: true; the input reads as it did. -/
def checkSoundsSpec : ChangeSpec := { name := "checkSounds", fn := fun _ => fun
  | [d] => { results := [.lit (.bool true)], args := [d] }
  | _ => none }
def checkSoundsRow : OpenClaim := { program := "ytaphcmcimoloiaagreatdoor", sum := "0fd737b25fe66836da62ba53ab127b5ea12acb12ee0fecd1022909795792f2f3", func := "cutwater/cutwaterlaw19.CheckSounds", spec := "checkSounds", inPlace := ["internal/abi.NoEscape", "internal/bytealg.MakeNoZero", "internal/bytealg.IndexByteString", "internal/bytealg.IndexString"], unfollowed := true, recurses := true, named := ["internal/bytealg.MaxLen", "unicode/utf8.first", "unicode/utf8.acceptRanges"], plainKeys := false, apart := false, laid := [("unicode/utf8.acceptRanges", laid_unicode_utf8_acceptRanges), ("unicode/utf8.first", laid_unicode_utf8_first)] }
def CheckSoundsSaid : Prop := checkSoundsRow.holds Tryz.pinned (OpenSpec.ofChange checkSoundsSpec)

/-- ITS FALSE NEIGHBOUR: 'it returns false'. Refute it at one input. -/
def checkSoundsWrong : ChangeSpec := { name := "checkSounds", fn := fun _ => fun
  | [d] => { results := [.lit (.bool false)], args := [d] }
  | _ => none }
def CheckSoundsWrongFalsely : Prop := checkSoundsRow.holds Tryz.pinned (OpenSpec.ofChange checkSoundsWrong)

/-- 'cutwaterlaw15.AllocLays': WHATEVER THE INPUT: true; the input reads as it did. -/
def allocLaysSpec : ChangeSpec := { name := "allocLays", fn := fun _ => fun
  | [d1, d2] => { results := [.lit (.bool true)], args := [d1, d2] }
  | _ => none }
def allocLaysRow : OpenClaim := { program := "ytaphcmcimoloiaagreatdoor", sum := "0fd737b25fe66836da62ba53ab127b5ea12acb12ee0fecd1022909795792f2f3", func := "cutwater/cutwaterlaw15.AllocLays", spec := "allocLays", inPlace := ["internal/abi.NoEscape", "internal/bytealg.MakeNoZero", "internal/bytealg.IndexByteString", "internal/bytealg.IndexString"], unfollowed := true, recurses := true, named := ["unicode/utf8.first", "unicode/utf8.acceptRanges", "internal/bytealg.MaxLen"], plainKeys := false, apart := false, laid := [("unicode/utf8.acceptRanges", laid_unicode_utf8_acceptRanges), ("unicode/utf8.first", laid_unicode_utf8_first)] }
def AllocLaysSaid : Prop := allocLaysRow.holds Tryz.pinned (OpenSpec.ofChange allocLaysSpec)

/-- ITS FALSE NEIGHBOUR: 'it returns false'. Refute it at one input. -/
def allocLaysWrong : ChangeSpec := { name := "allocLays", fn := fun _ => fun
  | [d1, d2] => { results := [.lit (.bool false)], args := [d1, d2] }
  | _ => none }
def AllocLaysWrongFalsely : Prop := allocLaysRow.holds Tryz.pinned (OpenSpec.ofChange allocLaysWrong)

/-- 'cutwaterlaw16.BmapHoles': WHATEVER THE INPUT: true; the input reads as it did. -/
def bmapHolesSpec : ChangeSpec := { name := "bmapHoles", fn := fun _ => fun
  | [d1, d2, d3] => { results := [.lit (.bool true)], args := [d1, d2, d3] }
  | _ => none }
def bmapHolesRow : OpenClaim := { program := "ytaphcmcimoloiaagreatdoor", sum := "0fd737b25fe66836da62ba53ab127b5ea12acb12ee0fecd1022909795792f2f3", func := "cutwater/cutwaterlaw16.BmapHoles", spec := "bmapHoles", inPlace := ["internal/abi.NoEscape", "internal/bytealg.MakeNoZero", "internal/bytealg.IndexByteString", "internal/bytealg.IndexString"], unfollowed := true, recurses := true, named := ["unicode/utf8.first", "unicode/utf8.acceptRanges", "internal/bytealg.MaxLen"], plainKeys := false, apart := false, laid := [("unicode/utf8.acceptRanges", laid_unicode_utf8_acceptRanges), ("unicode/utf8.first", laid_unicode_utf8_first)] }
def BmapHolesSaid : Prop := bmapHolesRow.holds Tryz.pinned (OpenSpec.ofChange bmapHolesSpec)

/-- ITS FALSE NEIGHBOUR: 'it returns false'. Refute it at one input. -/
def bmapHolesWrong : ChangeSpec := { name := "bmapHoles", fn := fun _ => fun
  | [d1, d2, d3] => { results := [.lit (.bool false)], args := [d1, d2, d3] }
  | _ => none }
def BmapHolesWrongFalsely : Prop := bmapHolesRow.holds Tryz.pinned (OpenSpec.ofChange bmapHolesWrong)

/-- 'cutwaterlaw17.DirsAsk': WHATEVER THE INPUT: true; the input reads as it did. -/
def dirsAskSpec : ChangeSpec := { name := "dirsAsk", fn := fun _ => fun
  | [d1, d2] => { results := [.lit (.bool true)], args := [d1, d2] }
  | _ => none }
def dirsAskRow : OpenClaim := { program := "ytaphcmcimoloiaagreatdoor", sum := "0fd737b25fe66836da62ba53ab127b5ea12acb12ee0fecd1022909795792f2f3", func := "cutwater/cutwaterlaw17.DirsAsk", spec := "dirsAsk", inPlace := ["internal/abi.NoEscape", "internal/bytealg.MakeNoZero", "internal/bytealg.IndexByteString", "internal/bytealg.IndexString"], unfollowed := true, recurses := true, named := ["internal/bytealg.MaxLen", "unicode/utf8.first", "unicode/utf8.acceptRanges"], plainKeys := false, apart := false, laid := [("unicode/utf8.acceptRanges", laid_unicode_utf8_acceptRanges), ("unicode/utf8.first", laid_unicode_utf8_first)] }
def DirsAskSaid : Prop := dirsAskRow.holds Tryz.pinned (OpenSpec.ofChange dirsAskSpec)

/-- ITS FALSE NEIGHBOUR: 'it returns false'. Refute it at one input. -/
def dirsAskWrong : ChangeSpec := { name := "dirsAsk", fn := fun _ => fun
  | [d1, d2] => { results := [.lit (.bool false)], args := [d1, d2] }
  | _ => none }
def DirsAskWrongFalsely : Prop := dirsAskRow.holds Tryz.pinned (OpenSpec.ofChange dirsAskWrong)

/-- 'cutwaterlaw17.DirsFull': WHATEVER THE INPUT: true; the input reads as it did. -/
def dirsFullSpec : ChangeSpec := { name := "dirsFull", fn := fun _ => fun
  | [d1, d2] => { results := [.lit (.bool true)], args := [d1, d2] }
  | _ => none }
def dirsFullRow : OpenClaim := { program := "ytaphcmcimoloiaagreatdoor", sum := "0fd737b25fe66836da62ba53ab127b5ea12acb12ee0fecd1022909795792f2f3", func := "cutwater/cutwaterlaw17.DirsFull", spec := "dirsFull", inPlace := ["internal/abi.NoEscape", "internal/bytealg.MakeNoZero", "internal/bytealg.IndexByteString", "internal/bytealg.IndexString", "maps.clone"], unfollowed := true, recurses := true, named := ["internal/bytealg.MaxLen", "unicode/utf8.first", "unicode/utf8.acceptRanges"], plainKeys := false, apart := false, laid := [("unicode/utf8.acceptRanges", laid_unicode_utf8_acceptRanges), ("unicode/utf8.first", laid_unicode_utf8_first)] }
def DirsFullSaid : Prop := dirsFullRow.holds Tryz.pinned (OpenSpec.ofChange dirsFullSpec)

/-- ITS FALSE NEIGHBOUR: 'it returns false'. Refute it at one input. -/
def dirsFullWrong : ChangeSpec := { name := "dirsFull", fn := fun _ => fun
  | [d1, d2] => { results := [.lit (.bool false)], args := [d1, d2] }
  | _ => none }
def DirsFullWrongFalsely : Prop := dirsFullRow.holds Tryz.pinned (OpenSpec.ofChange dirsFullWrong)

/-- 'cutwaterlaw16.BmapReads': WHATEVER THE INPUT: true; the input reads as it did. -/
def bmapReadsSpec : ChangeSpec := { name := "bmapReads", fn := fun _ => fun
  | [d1, d2] => { results := [.lit (.bool true)], args := [d1, d2] }
  | _ => none }
def bmapReadsRow : OpenClaim := { program := "ytaphcmcimoloiaagreatdoor", sum := "0fd737b25fe66836da62ba53ab127b5ea12acb12ee0fecd1022909795792f2f3", func := "cutwater/cutwaterlaw16.BmapReads", spec := "bmapReads", inPlace := ["internal/abi.NoEscape", "internal/bytealg.MakeNoZero", "internal/bytealg.IndexByteString", "internal/bytealg.IndexString", "maps.clone"], unfollowed := true, recurses := true, named := ["unicode/utf8.first", "unicode/utf8.acceptRanges", "internal/bytealg.MaxLen"], plainKeys := false, apart := false, laid := [("unicode/utf8.acceptRanges", laid_unicode_utf8_acceptRanges), ("unicode/utf8.first", laid_unicode_utf8_first)] }
def BmapReadsSaid : Prop := bmapReadsRow.holds Tryz.pinned (OpenSpec.ofChange bmapReadsSpec)

/-- ITS FALSE NEIGHBOUR: 'it returns false'. Refute it at one input. -/
def bmapReadsWrong : ChangeSpec := { name := "bmapReads", fn := fun _ => fun
  | [d1, d2] => { results := [.lit (.bool false)], args := [d1, d2] }
  | _ => none }
def BmapReadsWrongFalsely : Prop := bmapReadsRow.holds Tryz.pinned (OpenSpec.ofChange bmapReadsWrong)

/-- 'cutwaterlaw16.BmapSound': WHATEVER THE INPUT: true; the input reads as it did. -/
def bmapSoundSpec : ChangeSpec := { name := "bmapSound", fn := fun _ => fun
  | [d1, d2] => { results := [.lit (.bool true)], args := [d1, d2] }
  | _ => none }
def bmapSoundRow : OpenClaim := { program := "ytaphcmcimoloiaagreatdoor", sum := "0fd737b25fe66836da62ba53ab127b5ea12acb12ee0fecd1022909795792f2f3", func := "cutwater/cutwaterlaw16.BmapSound", spec := "bmapSound", inPlace := ["internal/abi.NoEscape", "internal/bytealg.MakeNoZero", "internal/bytealg.IndexByteString", "internal/bytealg.IndexString", "maps.clone"], unfollowed := true, recurses := true, named := ["unicode/utf8.first", "unicode/utf8.acceptRanges", "internal/bytealg.MaxLen"], plainKeys := false, apart := false, laid := [("unicode/utf8.acceptRanges", laid_unicode_utf8_acceptRanges), ("unicode/utf8.first", laid_unicode_utf8_first)] }
def BmapSoundSaid : Prop := bmapSoundRow.holds Tryz.pinned (OpenSpec.ofChange bmapSoundSpec)

/-- ITS FALSE NEIGHBOUR: 'it returns false'. Refute it at one input. -/
def bmapSoundWrong : ChangeSpec := { name := "bmapSound", fn := fun _ => fun
  | [d1, d2] => { results := [.lit (.bool false)], args := [d1, d2] }
  | _ => none }
def BmapSoundWrongFalsely : Prop := bmapSoundRow.holds Tryz.pinned (OpenSpec.ofChange bmapSoundWrong)

/-- 'cutwaterlaw16.BmapFrees': WHATEVER THE INPUT: true; the input reads as it did. -/
def bmapFreesSpec : ChangeSpec := { name := "bmapFrees", fn := fun _ => fun
  | [d1, d2] => { results := [.lit (.bool true)], args := [d1, d2] }
  | _ => none }
def bmapFreesRow : OpenClaim := { program := "ytaphcmcimoloiaagreatdoor", sum := "0fd737b25fe66836da62ba53ab127b5ea12acb12ee0fecd1022909795792f2f3", func := "cutwater/cutwaterlaw16.BmapFrees", spec := "bmapFrees", inPlace := ["internal/abi.NoEscape", "internal/bytealg.MakeNoZero", "internal/bytealg.IndexByteString", "internal/bytealg.IndexString", "maps.clone", "internal/bytealg.CountString"], unfollowed := true, recurses := true, named := ["unicode/utf8.first", "unicode/utf8.acceptRanges", "internal/bytealg.MaxLen"], plainKeys := false, apart := false, laid := [("unicode/utf8.acceptRanges", laid_unicode_utf8_acceptRanges), ("unicode/utf8.first", laid_unicode_utf8_first)] }
def BmapFreesSaid : Prop := bmapFreesRow.holds Tryz.pinned (OpenSpec.ofChange bmapFreesSpec)

/-- ITS FALSE NEIGHBOUR: 'it returns false'. Refute it at one input. -/
def bmapFreesWrong : ChangeSpec := { name := "bmapFrees", fn := fun _ => fun
  | [d1, d2] => { results := [.lit (.bool false)], args := [d1, d2] }
  | _ => none }
def BmapFreesWrongFalsely : Prop := bmapFreesRow.holds Tryz.pinned (OpenSpec.ofChange bmapFreesWrong)

/-- 'cutwaterlaw17.DirsKeep': WHATEVER THE INPUT: true; the input reads as it did. -/
def dirsKeepSpec : ChangeSpec := { name := "dirsKeep", fn := fun _ => fun
  | [d] => { results := [.lit (.bool true)], args := [d] }
  | _ => none }
def dirsKeepRow : OpenClaim := { program := "ytaphcmcimoloiaagreatdoor", sum := "0fd737b25fe66836da62ba53ab127b5ea12acb12ee0fecd1022909795792f2f3", func := "cutwater/cutwaterlaw17.DirsKeep", spec := "dirsKeep", inPlace := ["internal/abi.NoEscape", "internal/bytealg.MakeNoZero", "internal/bytealg.IndexByteString", "internal/bytealg.IndexString"], unfollowed := true, recurses := true, named := ["internal/bytealg.MaxLen", "unicode/utf8.first", "unicode/utf8.acceptRanges"], plainKeys := false, apart := false, laid := [("unicode/utf8.acceptRanges", laid_unicode_utf8_acceptRanges), ("unicode/utf8.first", laid_unicode_utf8_first)] }
def DirsKeepSaid : Prop := dirsKeepRow.holds Tryz.pinned (OpenSpec.ofChange dirsKeepSpec)

/-- ITS FALSE NEIGHBOUR: 'it returns false'. Refute it at one input. -/
def dirsKeepWrong : ChangeSpec := { name := "dirsKeep", fn := fun _ => fun
  | [d] => { results := [.lit (.bool false)], args := [d] }
  | _ => none }
def DirsKeepWrongFalsely : Prop := dirsKeepRow.holds Tryz.pinned (OpenSpec.ofChange dirsKeepWrong)

/- THE SECOND FORM. 'bulk': how many values and letters a reading holds, each counted each time it is reached (what is shared counts as often as it is met; a slice's spare places count too). A statement '..UptoSaid' is the law's where the arguments, and the package variables that the reading takes, are together of bulk at most 1048576: NARROWER than '..Said'. Prove '..Said' where nothing that the law and all that it calls make is longer than what came in: it says more and counts as full. Else prove '..UptoSaid'. A law counts once. -/
mutual
def uptoBulk {H : Type} : DataW H → Nat
  | .lit (.string bytes) => bytes.length + 1
  | .lit _ => 1
  | .nil => 1
  | .ptr d => uptoBulk d + 1
  | .slice elems spare => uptoBulkAll elems + uptoBulkAll spare + 1
  | .agg parts => uptoBulkAll parts + 1
  | .iface _ d => uptoBulk d + 1
  | .map entries => uptoBulkEntries entries + 1
  | .held _ => 1
def uptoBulkAll {H : Type} : List (DataW H) → Nat
  | [] => 0
  | d :: r => uptoBulk d + uptoBulkAll r
def uptoBulkEntries {H : Type} : List (Lit × DataW H) → Nat
  | [] => 0
  | x :: r => uptoBulkEntry x + uptoBulkEntries r
def uptoBulkEntry {H : Type} : Lit × DataW H → Nat
  | (.string bytes, d) => bytes.length + uptoBulk d + 1
  | (_, d) => uptoBulk d + 1
 end
def uptoSmall : (H : Type) → List (DataW H) → Bool := fun _ ds => decide (uptoBulkAll ds ≤ 1048576)
def OpenSpec.upto (s : _root_.Go.ChangeSpec) : _root_.Go.OpenSpec := { _root_.Go.OpenSpec.ofChange s with cond := some uptoSmall }

/-- 'cutwaterlaw19.CheckSounds', WHERE WHAT IT READS IS OF BULK AT MOST 1048576: true; the input reads as it did. -/
def checkSoundsUptoRow : OpenClaim := { program := "ytaphcmcimoloiaagreatdoor", sum := "0fd737b25fe66836da62ba53ab127b5ea12acb12ee0fecd1022909795792f2f3", func := "cutwater/cutwaterlaw19.CheckSounds", spec := "checkSounds", inPlace := ["internal/abi.NoEscape", "internal/bytealg.MakeNoZero", "internal/bytealg.IndexByteString", "internal/bytealg.IndexString"], unfollowed := true, recurses := true, named := ["internal/bytealg.MaxLen", "unicode/utf8.first", "unicode/utf8.acceptRanges"], plainKeys := false, apart := false, laid := [("unicode/utf8.acceptRanges", laid_unicode_utf8_acceptRanges), ("unicode/utf8.first", laid_unicode_utf8_first)], narrowed := true }
def CheckSoundsUptoSaid : Prop := checkSoundsUptoRow.holds Tryz.pinned (OpenSpec.upto checkSoundsSpec)

/-- 'cutwaterlaw15.AllocLays', WHERE WHAT IT READS IS OF BULK AT MOST 1048576: true; the input reads as it did. -/
def allocLaysUptoRow : OpenClaim := { program := "ytaphcmcimoloiaagreatdoor", sum := "0fd737b25fe66836da62ba53ab127b5ea12acb12ee0fecd1022909795792f2f3", func := "cutwater/cutwaterlaw15.AllocLays", spec := "allocLays", inPlace := ["internal/abi.NoEscape", "internal/bytealg.MakeNoZero", "internal/bytealg.IndexByteString", "internal/bytealg.IndexString"], unfollowed := true, recurses := true, named := ["unicode/utf8.first", "unicode/utf8.acceptRanges", "internal/bytealg.MaxLen"], plainKeys := false, apart := false, laid := [("unicode/utf8.acceptRanges", laid_unicode_utf8_acceptRanges), ("unicode/utf8.first", laid_unicode_utf8_first)], narrowed := true }
def AllocLaysUptoSaid : Prop := allocLaysUptoRow.holds Tryz.pinned (OpenSpec.upto allocLaysSpec)

/-- 'cutwaterlaw16.BmapHoles', WHERE WHAT IT READS IS OF BULK AT MOST 1048576: true; the input reads as it did. -/
def bmapHolesUptoRow : OpenClaim := { program := "ytaphcmcimoloiaagreatdoor", sum := "0fd737b25fe66836da62ba53ab127b5ea12acb12ee0fecd1022909795792f2f3", func := "cutwater/cutwaterlaw16.BmapHoles", spec := "bmapHoles", inPlace := ["internal/abi.NoEscape", "internal/bytealg.MakeNoZero", "internal/bytealg.IndexByteString", "internal/bytealg.IndexString"], unfollowed := true, recurses := true, named := ["unicode/utf8.first", "unicode/utf8.acceptRanges", "internal/bytealg.MaxLen"], plainKeys := false, apart := false, laid := [("unicode/utf8.acceptRanges", laid_unicode_utf8_acceptRanges), ("unicode/utf8.first", laid_unicode_utf8_first)], narrowed := true }
def BmapHolesUptoSaid : Prop := bmapHolesUptoRow.holds Tryz.pinned (OpenSpec.upto bmapHolesSpec)

/-- 'cutwaterlaw17.DirsAsk', WHERE WHAT IT READS IS OF BULK AT MOST 1048576: true; the input reads as it did. -/
def dirsAskUptoRow : OpenClaim := { program := "ytaphcmcimoloiaagreatdoor", sum := "0fd737b25fe66836da62ba53ab127b5ea12acb12ee0fecd1022909795792f2f3", func := "cutwater/cutwaterlaw17.DirsAsk", spec := "dirsAsk", inPlace := ["internal/abi.NoEscape", "internal/bytealg.MakeNoZero", "internal/bytealg.IndexByteString", "internal/bytealg.IndexString"], unfollowed := true, recurses := true, named := ["internal/bytealg.MaxLen", "unicode/utf8.first", "unicode/utf8.acceptRanges"], plainKeys := false, apart := false, laid := [("unicode/utf8.acceptRanges", laid_unicode_utf8_acceptRanges), ("unicode/utf8.first", laid_unicode_utf8_first)], narrowed := true }
def DirsAskUptoSaid : Prop := dirsAskUptoRow.holds Tryz.pinned (OpenSpec.upto dirsAskSpec)

/-- 'cutwaterlaw17.DirsFull', WHERE WHAT IT READS IS OF BULK AT MOST 1048576: true; the input reads as it did. -/
def dirsFullUptoRow : OpenClaim := { program := "ytaphcmcimoloiaagreatdoor", sum := "0fd737b25fe66836da62ba53ab127b5ea12acb12ee0fecd1022909795792f2f3", func := "cutwater/cutwaterlaw17.DirsFull", spec := "dirsFull", inPlace := ["internal/abi.NoEscape", "internal/bytealg.MakeNoZero", "internal/bytealg.IndexByteString", "internal/bytealg.IndexString", "maps.clone"], unfollowed := true, recurses := true, named := ["internal/bytealg.MaxLen", "unicode/utf8.first", "unicode/utf8.acceptRanges"], plainKeys := false, apart := false, laid := [("unicode/utf8.acceptRanges", laid_unicode_utf8_acceptRanges), ("unicode/utf8.first", laid_unicode_utf8_first)], narrowed := true }
def DirsFullUptoSaid : Prop := dirsFullUptoRow.holds Tryz.pinned (OpenSpec.upto dirsFullSpec)

/-- 'cutwaterlaw16.BmapReads', WHERE WHAT IT READS IS OF BULK AT MOST 1048576: true; the input reads as it did. -/
def bmapReadsUptoRow : OpenClaim := { program := "ytaphcmcimoloiaagreatdoor", sum := "0fd737b25fe66836da62ba53ab127b5ea12acb12ee0fecd1022909795792f2f3", func := "cutwater/cutwaterlaw16.BmapReads", spec := "bmapReads", inPlace := ["internal/abi.NoEscape", "internal/bytealg.MakeNoZero", "internal/bytealg.IndexByteString", "internal/bytealg.IndexString", "maps.clone"], unfollowed := true, recurses := true, named := ["unicode/utf8.first", "unicode/utf8.acceptRanges", "internal/bytealg.MaxLen"], plainKeys := false, apart := false, laid := [("unicode/utf8.acceptRanges", laid_unicode_utf8_acceptRanges), ("unicode/utf8.first", laid_unicode_utf8_first)], narrowed := true }
def BmapReadsUptoSaid : Prop := bmapReadsUptoRow.holds Tryz.pinned (OpenSpec.upto bmapReadsSpec)

/-- 'cutwaterlaw16.BmapSound', WHERE WHAT IT READS IS OF BULK AT MOST 1048576: true; the input reads as it did. -/
def bmapSoundUptoRow : OpenClaim := { program := "ytaphcmcimoloiaagreatdoor", sum := "0fd737b25fe66836da62ba53ab127b5ea12acb12ee0fecd1022909795792f2f3", func := "cutwater/cutwaterlaw16.BmapSound", spec := "bmapSound", inPlace := ["internal/abi.NoEscape", "internal/bytealg.MakeNoZero", "internal/bytealg.IndexByteString", "internal/bytealg.IndexString", "maps.clone"], unfollowed := true, recurses := true, named := ["unicode/utf8.first", "unicode/utf8.acceptRanges", "internal/bytealg.MaxLen"], plainKeys := false, apart := false, laid := [("unicode/utf8.acceptRanges", laid_unicode_utf8_acceptRanges), ("unicode/utf8.first", laid_unicode_utf8_first)], narrowed := true }
def BmapSoundUptoSaid : Prop := bmapSoundUptoRow.holds Tryz.pinned (OpenSpec.upto bmapSoundSpec)

/-- 'cutwaterlaw16.BmapFrees', WHERE WHAT IT READS IS OF BULK AT MOST 1048576: true; the input reads as it did. -/
def bmapFreesUptoRow : OpenClaim := { program := "ytaphcmcimoloiaagreatdoor", sum := "0fd737b25fe66836da62ba53ab127b5ea12acb12ee0fecd1022909795792f2f3", func := "cutwater/cutwaterlaw16.BmapFrees", spec := "bmapFrees", inPlace := ["internal/abi.NoEscape", "internal/bytealg.MakeNoZero", "internal/bytealg.IndexByteString", "internal/bytealg.IndexString", "maps.clone", "internal/bytealg.CountString"], unfollowed := true, recurses := true, named := ["unicode/utf8.first", "unicode/utf8.acceptRanges", "internal/bytealg.MaxLen"], plainKeys := false, apart := false, laid := [("unicode/utf8.acceptRanges", laid_unicode_utf8_acceptRanges), ("unicode/utf8.first", laid_unicode_utf8_first)], narrowed := true }
def BmapFreesUptoSaid : Prop := bmapFreesUptoRow.holds Tryz.pinned (OpenSpec.upto bmapFreesSpec)

/-- 'cutwaterlaw17.DirsKeep', WHERE WHAT IT READS IS OF BULK AT MOST 1048576: true; the input reads as it did. -/
def dirsKeepUptoRow : OpenClaim := { program := "ytaphcmcimoloiaagreatdoor", sum := "0fd737b25fe66836da62ba53ab127b5ea12acb12ee0fecd1022909795792f2f3", func := "cutwater/cutwaterlaw17.DirsKeep", spec := "dirsKeep", inPlace := ["internal/abi.NoEscape", "internal/bytealg.MakeNoZero", "internal/bytealg.IndexByteString", "internal/bytealg.IndexString"], unfollowed := true, recurses := true, named := ["internal/bytealg.MaxLen", "unicode/utf8.first", "unicode/utf8.acceptRanges"], plainKeys := false, apart := false, laid := [("unicode/utf8.acceptRanges", laid_unicode_utf8_acceptRanges), ("unicode/utf8.first", laid_unicode_utf8_first)], narrowed := true }
def DirsKeepUptoSaid : Prop := dirsKeepUptoRow.holds Tryz.pinned (OpenSpec.upto dirsKeepSpec)

end Rows
end Go.Proofs.YtaphcmcimoloiaaGreatDoor
