/-
  NARROWER THAN 'FOR EVERY INPUT', by the rows' own cells (each row's printed sentence says how): TopThree: laid · TopSaid: laid · LogKeeps: laid · LogStops: laid · ModelTells: laid · ModelMany: laid · LeastMany: laid · LeastTells: laid · AlikeWorlds: laid · ModelHolds: laid · WorldsAll: laid · LeastFew: laid · TextLines: laid · TextTells: laid · AtomTells: laid · RunAnswers: laid · RunBegins: laid · RunCounts: laid · TopNames: laid.
  DERIVED. THE GIVEN ROWS OF THIS SEAT. 19 by the template 'for every input the law returns true; each argument reads behind the call as it read before'; 0 by the template 'total and deterministic' (their statements: YtpfinfneclmjkaaGreatDoorTotals.lean).
  GIVEN WITH THE SEED: the statements are not yours to turn. If you find one false, say at which input.
  Laid BY PROGRAM, IN A SANDBOX (cutbox-rows.mjs): the forced cells as the released guide's own fill.sh prints them over the translation 2b7dcd6f24e6f30e… (all of the seat's roots in one cut). By AI agents, Wed Nov 11 2026. No macro, syntax, notation, axiom, sorry.
-/
import Derived.Test.YtpfinfneclmjkaaGreatDoorChecked
import GoSem.PinnedTables
import GoSem.Claim
import GoSem.ClaimJoined
import GoSem.ClaimMapViews
import Derived.JoinedTies
import Derived.KernelRfl
namespace Go.Proofs.YtpfinfneclmjkaaGreatDoor
/- THE CELL 'sum', in the pinned program and in every row, IS THE sha256 OF THE DUMP (.gsa) THAT YtpfinfneclmjkaaGreatDoorProg.lean LOADS. Nothing in Lean hashes anything: it is a label: what it is worth is what the hold of that sum in a sandbox is worth. -/
noncomputable def Tryz.pinned : Pinned := { name := "ytpfinfneclmjkaagreatdoor", sum := "2b7dcd6f24e6f30e445c62bc9882b9c32909b5c4e7092484fda8d62449f9d0ad", checked := Tryz.checked }
namespace Rows
def none {H : Type} : Left H := { results := [], args := [] }

/- WHAT THE LISTED PACKAGE-LEVEL VARIABLES READ AS WHEN THE CALL BEGINS. Each datum BY PROGRAM (the guide's laid-datum.mjs) off the statement by which the dump's own 'gosem.cut.vars' lays the variable. In a bare row this is a premise. The card (YtpfinfneclmjkaaGreatDoorCards.lean) ties it to the program's text. -/
def laid_errors_errorType {H : Type} : DataW H := .iface "internal/reflectlite.rtype" (.agg [.ptr (.lit (.string [101, 114, 114, 111, 114]))])
def laid_vennhouse_atom_kinds {H : Type} : DataW H := .agg [.agg [.lit (.string []), .lit (.bool false), .lit (.bool false)], .agg [.lit (.string [115, 117, 98]), .lit (.bool true), .lit (.bool false)], .agg [.lit (.string [115, 97, 109, 101]), .lit (.bool true), .lit (.bool false)], .agg [.lit (.string [108, 101, 97, 115, 116]), .lit (.bool false), .lit (.bool true)], .agg [.lit (.string [109, 111, 115, 116]), .lit (.bool false), .lit (.bool true)], .agg [.lit (.string [110, 111, 109, 111, 114, 101]), .lit (.bool true), .lit (.bool true)]]
def laid_math_bits_deBruijn32tab {H : Type} : DataW H := .agg [.lit (.int .u8 0), .lit (.int .u8 1), .lit (.int .u8 28), .lit (.int .u8 2), .lit (.int .u8 29), .lit (.int .u8 14), .lit (.int .u8 24), .lit (.int .u8 3), .lit (.int .u8 30), .lit (.int .u8 22), .lit (.int .u8 20), .lit (.int .u8 15), .lit (.int .u8 25), .lit (.int .u8 17), .lit (.int .u8 4), .lit (.int .u8 8), .lit (.int .u8 31), .lit (.int .u8 27), .lit (.int .u8 13), .lit (.int .u8 23), .lit (.int .u8 21), .lit (.int .u8 19), .lit (.int .u8 16), .lit (.int .u8 7), .lit (.int .u8 26), .lit (.int .u8 12), .lit (.int .u8 18), .lit (.int .u8 6), .lit (.int .u8 11), .lit (.int .u8 5), .lit (.int .u8 10), .lit (.int .u8 9)]
def laid_math_bits_deBruijn64tab {H : Type} : DataW H := .agg [.lit (.int .u8 0), .lit (.int .u8 1), .lit (.int .u8 56), .lit (.int .u8 2), .lit (.int .u8 57), .lit (.int .u8 49), .lit (.int .u8 28), .lit (.int .u8 3), .lit (.int .u8 61), .lit (.int .u8 58), .lit (.int .u8 42), .lit (.int .u8 50), .lit (.int .u8 38), .lit (.int .u8 29), .lit (.int .u8 17), .lit (.int .u8 4), .lit (.int .u8 62), .lit (.int .u8 47), .lit (.int .u8 59), .lit (.int .u8 36), .lit (.int .u8 45), .lit (.int .u8 43), .lit (.int .u8 51), .lit (.int .u8 22), .lit (.int .u8 53), .lit (.int .u8 39), .lit (.int .u8 33), .lit (.int .u8 30), .lit (.int .u8 24), .lit (.int .u8 18), .lit (.int .u8 12), .lit (.int .u8 5), .lit (.int .u8 63), .lit (.int .u8 55), .lit (.int .u8 48), .lit (.int .u8 27), .lit (.int .u8 60), .lit (.int .u8 41), .lit (.int .u8 37), .lit (.int .u8 16), .lit (.int .u8 46), .lit (.int .u8 35), .lit (.int .u8 44), .lit (.int .u8 21), .lit (.int .u8 52), .lit (.int .u8 32), .lit (.int .u8 23), .lit (.int .u8 11), .lit (.int .u8 54), .lit (.int .u8 26), .lit (.int .u8 40), .lit (.int .u8 15), .lit (.int .u8 34), .lit (.int .u8 20), .lit (.int .u8 31), .lit (.int .u8 10), .lit (.int .u8 25), .lit (.int .u8 14), .lit (.int .u8 19), .lit (.int .u8 9), .lit (.int .u8 13), .lit (.int .u8 8), .lit (.int .u8 7), .lit (.int .u8 6)]
def laid_internal_strconv_uint64pow10 {H : Type} : DataW H := .agg [.lit (.int .u64 1), .lit (.int .u64 10), .lit (.int .u64 100), .lit (.int .u64 1000), .lit (.int .u64 10000), .lit (.int .u64 100000), .lit (.int .u64 1000000), .lit (.int .u64 10000000), .lit (.int .u64 100000000), .lit (.int .u64 1000000000), .lit (.int .u64 10000000000), .lit (.int .u64 100000000000), .lit (.int .u64 1000000000000), .lit (.int .u64 10000000000000), .lit (.int .u64 100000000000000), .lit (.int .u64 1000000000000000), .lit (.int .u64 10000000000000000), .lit (.int .u64 100000000000000000), .lit (.int .u64 1000000000000000000), .lit (.int .u64 10000000000000000000)]
def laid_unicode_utf8_acceptRanges {H : Type} : DataW H := .agg [.agg [.lit (.int .u8 128), .lit (.int .u8 191)], .agg [.lit (.int .u8 160), .lit (.int .u8 191)], .agg [.lit (.int .u8 128), .lit (.int .u8 159)], .agg [.lit (.int .u8 144), .lit (.int .u8 191)], .agg [.lit (.int .u8 128), .lit (.int .u8 143)], .agg [.lit (.int .u8 0), .lit (.int .u8 0)], .agg [.lit (.int .u8 0), .lit (.int .u8 0)], .agg [.lit (.int .u8 0), .lit (.int .u8 0)], .agg [.lit (.int .u8 0), .lit (.int .u8 0)], .agg [.lit (.int .u8 0), .lit (.int .u8 0)], .agg [.lit (.int .u8 0), .lit (.int .u8 0)], .agg [.lit (.int .u8 0), .lit (.int .u8 0)], .agg [.lit (.int .u8 0), .lit (.int .u8 0)], .agg [.lit (.int .u8 0), .lit (.int .u8 0)], .agg [.lit (.int .u8 0), .lit (.int .u8 0)], .agg [.lit (.int .u8 0), .lit (.int .u8 0)]]
def laid_strconv_ErrRange {H : Type} : DataW H := .iface "*errors.errorString" (.ptr (.agg [.lit (.string [118, 97, 108, 117, 101, 32, 111, 117, 116, 32, 111, 102, 32, 114, 97, 110, 103, 101])]))
def laid_strconv_ErrSyntax {H : Type} : DataW H := .iface "*errors.errorString" (.ptr (.agg [.lit (.string [105, 110, 118, 97, 108, 105, 100, 32, 115, 121, 110, 116, 97, 120])]))
def laid_vennhouse_text_words {H : Type} : DataW H := .agg [.agg [.lit (.int .i64 10), .lit (.string [97, 110, 100])], .agg [.lit (.int .i64 11), .lit (.string [111, 114])], .agg [.lit (.int .i64 12), .lit (.string [110, 111])], .agg [.lit (.int .i64 13), .lit (.string [116, 104, 101, 110])]]
/-- One of Go's own tables, pinned by name: the form's constant. -/
def laid_unicode_utf8_first : DataW Unit := Go.Pinned.utf8First
def laid_vennhouse_run_unread {H : Type} : DataW H := .agg [.iface "vennhouse/api.Errno" (.lit (.int .i64 2))]

/-- 'venntop.TopThree': WHATEVER THE INPUT: true; the input reads as it did. -/
def topThreeSpec : ChangeSpec := { name := "topThree", fn := fun _ => fun
  | [d1, d2] => { results := [.lit (.bool true)], args := [d1, d2] }
  | _ => none }
def topThreeRow : OpenClaim := { program := "ytpfinfneclmjkaagreatdoor", sum := "2b7dcd6f24e6f30e445c62bc9882b9c32909b5c4e7092484fda8d62449f9d0ad", func := "vennhouse/venntop.TopThree", spec := "topThree", inPlace := ["internal/reflectlite.ValueOf", "(internal/reflectlite.Value).Type", "(internal/reflectlite.Value).IsNil", "internal/reflectlite.TypeOf", "(internal/reflectlite.Value).Elem", "(internal/reflectlite.Value).Set"], unfollowed := true, recurses := true, named := ["vennhouse/atom.kinds", "errors.errorType"], apart := false, laid := [("errors.errorType", laid_errors_errorType), ("vennhouse/atom.kinds", laid_vennhouse_atom_kinds)] }
def TopThreeSaid : Prop := topThreeRow.holds Tryz.pinned (OpenSpec.ofChange topThreeSpec)

/-- ITS FALSE NEIGHBOUR: 'it returns false'. Refute it at one input. -/
def topThreeWrong : ChangeSpec := { name := "topThree", fn := fun _ => fun
  | [d1, d2] => { results := [.lit (.bool false)], args := [d1, d2] }
  | _ => none }
def TopThreeWrongFalsely : Prop := topThreeRow.holds Tryz.pinned (OpenSpec.ofChange topThreeWrong)

/-- 'venntop.TopSaid': WHATEVER THE INPUT: true; the input reads as it did. -/
def topSaidSpec : ChangeSpec := { name := "topSaid", fn := fun _ => fun
  | [d1, d2, d3] => { results := [.lit (.bool true)], args := [d1, d2, d3] }
  | _ => none }
def topSaidRow : OpenClaim := { program := "ytpfinfneclmjkaagreatdoor", sum := "2b7dcd6f24e6f30e445c62bc9882b9c32909b5c4e7092484fda8d62449f9d0ad", func := "vennhouse/venntop.TopSaid", spec := "topSaid", inPlace := ["internal/abi.NoEscape", "internal/bytealg.MakeNoZero", "internal/bytealg.CountString", "internal/bytealg.IndexByteString", "internal/bytealg.IndexString", "internal/reflectlite.ValueOf", "(internal/reflectlite.Value).Type", "(internal/reflectlite.Value).IsNil", "internal/reflectlite.TypeOf", "(internal/reflectlite.Value).Elem", "(internal/reflectlite.Value).Set"], unfollowed := true, recurses := true, named := ["vennhouse/atom.kinds", "internal/strconv.uint64pow10", "math/bits.deBruijn32tab", "math/bits.deBruijn64tab", "internal/bytealg.MaxLen", "errors.errorType"], apart := false, laid := [("math/bits.deBruijn32tab", laid_math_bits_deBruijn32tab), ("math/bits.deBruijn64tab", laid_math_bits_deBruijn64tab), ("internal/strconv.uint64pow10", laid_internal_strconv_uint64pow10), ("errors.errorType", laid_errors_errorType), ("vennhouse/atom.kinds", laid_vennhouse_atom_kinds)] }
def TopSaidSaid : Prop := topSaidRow.holds Tryz.pinned (OpenSpec.ofChange topSaidSpec)

/-- ITS FALSE NEIGHBOUR: 'it returns false'. Refute it at one input. -/
def topSaidWrong : ChangeSpec := { name := "topSaid", fn := fun _ => fun
  | [d1, d2, d3] => { results := [.lit (.bool false)], args := [d1, d2, d3] }
  | _ => none }
def TopSaidWrongFalsely : Prop := topSaidRow.holds Tryz.pinned (OpenSpec.ofChange topSaidWrong)

/-- 'vennlaw3.LogKeeps': WHATEVER THE INPUT: true; the input reads as it did. -/
def logKeepsSpec : ChangeSpec := { name := "logKeeps", fn := fun _ => fun
  | [d1, d2, d3, d4, d5, d6] => { results := [.lit (.bool true)], args := [d1, d2, d3, d4, d5, d6] }
  | _ => none }
def logKeepsRow : OpenClaim := { program := "ytpfinfneclmjkaagreatdoor", sum := "2b7dcd6f24e6f30e445c62bc9882b9c32909b5c4e7092484fda8d62449f9d0ad", func := "vennhouse/vennlaw3.LogKeeps", spec := "logKeeps", inPlace := ["internal/abi.NoEscape", "internal/bytealg.MakeNoZero", "internal/bytealg.CountString", "internal/bytealg.IndexByteString", "internal/bytealg.IndexString", "internal/reflectlite.ValueOf", "(internal/reflectlite.Value).Type", "(internal/reflectlite.Value).IsNil", "internal/reflectlite.TypeOf", "(internal/reflectlite.Value).Elem", "(internal/reflectlite.Value).Set"], unfollowed := true, recurses := true, named := ["vennhouse/atom.kinds", "internal/strconv.uint64pow10", "math/bits.deBruijn32tab", "math/bits.deBruijn64tab", "internal/bytealg.MaxLen", "errors.errorType"], apart := false, laid := [("math/bits.deBruijn32tab", laid_math_bits_deBruijn32tab), ("math/bits.deBruijn64tab", laid_math_bits_deBruijn64tab), ("internal/strconv.uint64pow10", laid_internal_strconv_uint64pow10), ("errors.errorType", laid_errors_errorType), ("vennhouse/atom.kinds", laid_vennhouse_atom_kinds)] }
def LogKeepsSaid : Prop := logKeepsRow.holds Tryz.pinned (OpenSpec.ofChange logKeepsSpec)

/-- ITS FALSE NEIGHBOUR: 'it returns false'. Refute it at one input. -/
def logKeepsWrong : ChangeSpec := { name := "logKeeps", fn := fun _ => fun
  | [d1, d2, d3, d4, d5, d6] => { results := [.lit (.bool false)], args := [d1, d2, d3, d4, d5, d6] }
  | _ => none }
def LogKeepsWrongFalsely : Prop := logKeepsRow.holds Tryz.pinned (OpenSpec.ofChange logKeepsWrong)

/-- 'vennlaw3.LogStops': WHATEVER THE INPUT: true; the input reads as it did. -/
def logStopsSpec : ChangeSpec := { name := "logStops", fn := fun _ => fun
  | [d1, d2, d3] => { results := [.lit (.bool true)], args := [d1, d2, d3] }
  | _ => none }
def logStopsRow : OpenClaim := { program := "ytpfinfneclmjkaagreatdoor", sum := "2b7dcd6f24e6f30e445c62bc9882b9c32909b5c4e7092484fda8d62449f9d0ad", func := "vennhouse/vennlaw3.LogStops", spec := "logStops", inPlace := ["internal/abi.NoEscape", "internal/bytealg.MakeNoZero", "internal/reflectlite.ValueOf", "(internal/reflectlite.Value).Type", "(internal/reflectlite.Value).IsNil", "internal/reflectlite.TypeOf", "(internal/reflectlite.Value).Elem", "(internal/reflectlite.Value).Set", "internal/bytealg.CountString", "internal/bytealg.IndexByteString", "internal/bytealg.IndexString"], unfollowed := true, recurses := true, named := ["vennhouse/atom.kinds", "internal/strconv.uint64pow10", "math/bits.deBruijn32tab", "math/bits.deBruijn64tab", "errors.errorType", "internal/bytealg.MaxLen"], apart := false, laid := [("math/bits.deBruijn32tab", laid_math_bits_deBruijn32tab), ("math/bits.deBruijn64tab", laid_math_bits_deBruijn64tab), ("internal/strconv.uint64pow10", laid_internal_strconv_uint64pow10), ("errors.errorType", laid_errors_errorType), ("vennhouse/atom.kinds", laid_vennhouse_atom_kinds)] }
def LogStopsSaid : Prop := logStopsRow.holds Tryz.pinned (OpenSpec.ofChange logStopsSpec)

/-- ITS FALSE NEIGHBOUR: 'it returns false'. Refute it at one input. -/
def logStopsWrong : ChangeSpec := { name := "logStops", fn := fun _ => fun
  | [d1, d2, d3] => { results := [.lit (.bool false)], args := [d1, d2, d3] }
  | _ => none }
def LogStopsWrongFalsely : Prop := logStopsRow.holds Tryz.pinned (OpenSpec.ofChange logStopsWrong)

/-- 'vennlaw1.ModelTells': WHATEVER THE INPUT: true; the input reads as it did. -/
def modelTellsSpec : ChangeSpec := { name := "modelTells", fn := fun _ => fun
  | [d1, d2] => { results := [.lit (.bool true)], args := [d1, d2] }
  | _ => none }
def modelTellsRow : OpenClaim := { program := "ytpfinfneclmjkaagreatdoor", sum := "2b7dcd6f24e6f30e445c62bc9882b9c32909b5c4e7092484fda8d62449f9d0ad", func := "vennhouse/vennlaw1.ModelTells", spec := "modelTells", inPlace := ["internal/reflectlite.ValueOf", "(internal/reflectlite.Value).Type", "(internal/reflectlite.Value).IsNil", "internal/reflectlite.TypeOf", "(internal/reflectlite.Value).Elem", "(internal/reflectlite.Value).Set"], unfollowed := true, recurses := true, named := ["vennhouse/atom.kinds", "errors.errorType"], apart := false, laid := [("errors.errorType", laid_errors_errorType), ("vennhouse/atom.kinds", laid_vennhouse_atom_kinds)] }
def ModelTellsSaid : Prop := modelTellsRow.holds Tryz.pinned (OpenSpec.ofChange modelTellsSpec)

/-- ITS FALSE NEIGHBOUR: 'it returns false'. Refute it at one input. -/
def modelTellsWrong : ChangeSpec := { name := "modelTells", fn := fun _ => fun
  | [d1, d2] => { results := [.lit (.bool false)], args := [d1, d2] }
  | _ => none }
def ModelTellsWrongFalsely : Prop := modelTellsRow.holds Tryz.pinned (OpenSpec.ofChange modelTellsWrong)

/-- 'vennlaw4.ModelMany': WHATEVER THE INPUT: true; the input reads as it did. -/
def modelManySpec : ChangeSpec := { name := "modelMany", fn := fun _ => fun
  | [d1, d2] => { results := [.lit (.bool true)], args := [d1, d2] }
  | _ => none }
def modelManyRow : OpenClaim := { program := "ytpfinfneclmjkaagreatdoor", sum := "2b7dcd6f24e6f30e445c62bc9882b9c32909b5c4e7092484fda8d62449f9d0ad", func := "vennhouse/vennlaw4.ModelMany", spec := "modelMany", inPlace := ["internal/reflectlite.ValueOf", "(internal/reflectlite.Value).Type", "(internal/reflectlite.Value).IsNil", "internal/reflectlite.TypeOf", "(internal/reflectlite.Value).Elem", "(internal/reflectlite.Value).Set"], unfollowed := true, recurses := true, named := ["vennhouse/atom.kinds", "errors.errorType"], apart := false, laid := [("errors.errorType", laid_errors_errorType), ("vennhouse/atom.kinds", laid_vennhouse_atom_kinds)] }
def ModelManySaid : Prop := modelManyRow.holds Tryz.pinned (OpenSpec.ofChange modelManySpec)

/-- ITS FALSE NEIGHBOUR: 'it returns false'. Refute it at one input. -/
def modelManyWrong : ChangeSpec := { name := "modelMany", fn := fun _ => fun
  | [d1, d2] => { results := [.lit (.bool false)], args := [d1, d2] }
  | _ => none }
def ModelManyWrongFalsely : Prop := modelManyRow.holds Tryz.pinned (OpenSpec.ofChange modelManyWrong)

/-- 'vennlaw4.LeastMany': WHATEVER THE INPUT: true; the input reads as it did. -/
def leastManySpec : ChangeSpec := { name := "leastMany", fn := fun _ => fun
  | [d1, d2] => { results := [.lit (.bool true)], args := [d1, d2] }
  | _ => none }
def leastManyRow : OpenClaim := { program := "ytpfinfneclmjkaagreatdoor", sum := "2b7dcd6f24e6f30e445c62bc9882b9c32909b5c4e7092484fda8d62449f9d0ad", func := "vennhouse/vennlaw4.LeastMany", spec := "leastMany", inPlace := ["internal/reflectlite.ValueOf", "(internal/reflectlite.Value).Type", "(internal/reflectlite.Value).IsNil", "internal/reflectlite.TypeOf", "(internal/reflectlite.Value).Elem", "(internal/reflectlite.Value).Set"], unfollowed := true, recurses := true, named := ["vennhouse/atom.kinds", "errors.errorType"], apart := false, laid := [("errors.errorType", laid_errors_errorType), ("vennhouse/atom.kinds", laid_vennhouse_atom_kinds)] }
def LeastManySaid : Prop := leastManyRow.holds Tryz.pinned (OpenSpec.ofChange leastManySpec)

/-- ITS FALSE NEIGHBOUR: 'it returns false'. Refute it at one input. -/
def leastManyWrong : ChangeSpec := { name := "leastMany", fn := fun _ => fun
  | [d1, d2] => { results := [.lit (.bool false)], args := [d1, d2] }
  | _ => none }
def LeastManyWrongFalsely : Prop := leastManyRow.holds Tryz.pinned (OpenSpec.ofChange leastManyWrong)

/-- 'vennlaw2.LeastTells': WHATEVER THE INPUT: true; the input reads as it did. -/
def leastTellsSpec : ChangeSpec := { name := "leastTells", fn := fun _ => fun
  | [d] => { results := [.lit (.bool true)], args := [d] }
  | _ => none }
def leastTellsRow : OpenClaim := { program := "ytpfinfneclmjkaagreatdoor", sum := "2b7dcd6f24e6f30e445c62bc9882b9c32909b5c4e7092484fda8d62449f9d0ad", func := "vennhouse/vennlaw2.LeastTells", spec := "leastTells", inPlace := ["internal/reflectlite.ValueOf", "(internal/reflectlite.Value).Type", "(internal/reflectlite.Value).IsNil", "internal/reflectlite.TypeOf", "(internal/reflectlite.Value).Elem", "(internal/reflectlite.Value).Set"], unfollowed := true, recurses := true, named := ["vennhouse/atom.kinds", "errors.errorType"], apart := false, laid := [("errors.errorType", laid_errors_errorType), ("vennhouse/atom.kinds", laid_vennhouse_atom_kinds)] }
def LeastTellsSaid : Prop := leastTellsRow.holds Tryz.pinned (OpenSpec.ofChange leastTellsSpec)

/-- ITS FALSE NEIGHBOUR: 'it returns false'. Refute it at one input. -/
def leastTellsWrong : ChangeSpec := { name := "leastTells", fn := fun _ => fun
  | [d] => { results := [.lit (.bool false)], args := [d] }
  | _ => none }
def LeastTellsWrongFalsely : Prop := leastTellsRow.holds Tryz.pinned (OpenSpec.ofChange leastTellsWrong)

/-- 'vennlaw2.AlikeWorlds': WHATEVER THE INPUT: true; the input reads as it did. -/
def alikeWorldsSpec : ChangeSpec := { name := "alikeWorlds", fn := fun _ => fun
  | [d1, d2, d3, d4, d5] => { results := [.lit (.bool true)], args := [d1, d2, d3, d4, d5] }
  | _ => none }
def alikeWorldsRow : OpenClaim := { program := "ytpfinfneclmjkaagreatdoor", sum := "2b7dcd6f24e6f30e445c62bc9882b9c32909b5c4e7092484fda8d62449f9d0ad", func := "vennhouse/vennlaw2.AlikeWorlds", spec := "alikeWorlds", inPlace := ["internal/reflectlite.ValueOf", "(internal/reflectlite.Value).Type", "(internal/reflectlite.Value).IsNil", "internal/reflectlite.TypeOf", "(internal/reflectlite.Value).Elem", "(internal/reflectlite.Value).Set"], unfollowed := true, recurses := true, named := ["vennhouse/atom.kinds", "errors.errorType"], apart := false, laid := [("errors.errorType", laid_errors_errorType), ("vennhouse/atom.kinds", laid_vennhouse_atom_kinds)] }
def AlikeWorldsSaid : Prop := alikeWorldsRow.holds Tryz.pinned (OpenSpec.ofChange alikeWorldsSpec)

/-- ITS FALSE NEIGHBOUR: 'it returns false'. Refute it at one input. -/
def alikeWorldsWrong : ChangeSpec := { name := "alikeWorlds", fn := fun _ => fun
  | [d1, d2, d3, d4, d5] => { results := [.lit (.bool false)], args := [d1, d2, d3, d4, d5] }
  | _ => none }
def AlikeWorldsWrongFalsely : Prop := alikeWorldsRow.holds Tryz.pinned (OpenSpec.ofChange alikeWorldsWrong)

/-- 'vennlaw1.ModelHolds': WHATEVER THE INPUT: true; the input reads as it did. -/
def modelHoldsSpec : ChangeSpec := { name := "modelHolds", fn := fun _ => fun
  | [d1, d2, d3] => { results := [.lit (.bool true)], args := [d1, d2, d3] }
  | _ => none }
def modelHoldsRow : OpenClaim := { program := "ytpfinfneclmjkaagreatdoor", sum := "2b7dcd6f24e6f30e445c62bc9882b9c32909b5c4e7092484fda8d62449f9d0ad", func := "vennhouse/vennlaw1.ModelHolds", spec := "modelHolds", inPlace := ["internal/reflectlite.ValueOf", "(internal/reflectlite.Value).Type", "(internal/reflectlite.Value).IsNil", "internal/reflectlite.TypeOf", "(internal/reflectlite.Value).Elem", "(internal/reflectlite.Value).Set"], unfollowed := true, recurses := true, named := ["vennhouse/atom.kinds", "errors.errorType"], apart := false, laid := [("errors.errorType", laid_errors_errorType), ("vennhouse/atom.kinds", laid_vennhouse_atom_kinds)] }
def ModelHoldsSaid : Prop := modelHoldsRow.holds Tryz.pinned (OpenSpec.ofChange modelHoldsSpec)

/-- ITS FALSE NEIGHBOUR: 'it returns false'. Refute it at one input. -/
def modelHoldsWrong : ChangeSpec := { name := "modelHolds", fn := fun _ => fun
  | [d1, d2, d3] => { results := [.lit (.bool false)], args := [d1, d2, d3] }
  | _ => none }
def ModelHoldsWrongFalsely : Prop := modelHoldsRow.holds Tryz.pinned (OpenSpec.ofChange modelHoldsWrong)

/-- 'vennlaw2.WorldsAll': WHATEVER THE INPUT: true; the input reads as it did. -/
def worldsAllSpec : ChangeSpec := { name := "worldsAll", fn := fun _ => fun
  | [d1, d2, d3] => { results := [.lit (.bool true)], args := [d1, d2, d3] }
  | _ => none }
def worldsAllRow : OpenClaim := { program := "ytpfinfneclmjkaagreatdoor", sum := "2b7dcd6f24e6f30e445c62bc9882b9c32909b5c4e7092484fda8d62449f9d0ad", func := "vennhouse/vennlaw2.WorldsAll", spec := "worldsAll", inPlace := ["internal/reflectlite.ValueOf", "(internal/reflectlite.Value).Type", "(internal/reflectlite.Value).IsNil", "internal/reflectlite.TypeOf", "(internal/reflectlite.Value).Elem", "(internal/reflectlite.Value).Set"], unfollowed := true, recurses := true, named := ["vennhouse/atom.kinds", "errors.errorType"], apart := false, laid := [("errors.errorType", laid_errors_errorType), ("vennhouse/atom.kinds", laid_vennhouse_atom_kinds)] }
def WorldsAllSaid : Prop := worldsAllRow.holds Tryz.pinned (OpenSpec.ofChange worldsAllSpec)

/-- ITS FALSE NEIGHBOUR: 'it returns false'. Refute it at one input. -/
def worldsAllWrong : ChangeSpec := { name := "worldsAll", fn := fun _ => fun
  | [d1, d2, d3] => { results := [.lit (.bool false)], args := [d1, d2, d3] }
  | _ => none }
def WorldsAllWrongFalsely : Prop := worldsAllRow.holds Tryz.pinned (OpenSpec.ofChange worldsAllWrong)

/-- 'vennlaw2.LeastFew': WHATEVER THE INPUT: true; the input reads as it did. -/
def leastFewSpec : ChangeSpec := { name := "leastFew", fn := fun _ => fun
  | [d1, d2] => { results := [.lit (.bool true)], args := [d1, d2] }
  | _ => none }
def leastFewRow : OpenClaim := { program := "ytpfinfneclmjkaagreatdoor", sum := "2b7dcd6f24e6f30e445c62bc9882b9c32909b5c4e7092484fda8d62449f9d0ad", func := "vennhouse/vennlaw2.LeastFew", spec := "leastFew", inPlace := ["internal/reflectlite.ValueOf", "(internal/reflectlite.Value).Type", "(internal/reflectlite.Value).IsNil", "internal/reflectlite.TypeOf", "(internal/reflectlite.Value).Elem", "(internal/reflectlite.Value).Set"], unfollowed := true, recurses := true, named := ["vennhouse/atom.kinds", "errors.errorType"], apart := false, laid := [("errors.errorType", laid_errors_errorType), ("vennhouse/atom.kinds", laid_vennhouse_atom_kinds)] }
def LeastFewSaid : Prop := leastFewRow.holds Tryz.pinned (OpenSpec.ofChange leastFewSpec)

/-- ITS FALSE NEIGHBOUR: 'it returns false'. Refute it at one input. -/
def leastFewWrong : ChangeSpec := { name := "leastFew", fn := fun _ => fun
  | [d1, d2] => { results := [.lit (.bool false)], args := [d1, d2] }
  | _ => none }
def LeastFewWrongFalsely : Prop := leastFewRow.holds Tryz.pinned (OpenSpec.ofChange leastFewWrong)

/-- 'vennlaw4.TextLines': WHATEVER THE INPUT: true; the input reads as it did. -/
def textLinesSpec : ChangeSpec := { name := "textLines", fn := fun _ => fun
  | [d] => { results := [.lit (.bool true)], args := [d] }
  | _ => none }
def textLinesRow : OpenClaim := { program := "ytpfinfneclmjkaagreatdoor", sum := "2b7dcd6f24e6f30e445c62bc9882b9c32909b5c4e7092484fda8d62449f9d0ad", func := "vennhouse/vennlaw4.TextLines", spec := "textLines", inPlace := ["internal/abi.NoEscape", "internal/bytealg.MakeNoZero", "internal/bytealg.CountString", "internal/bytealg.IndexByteString", "internal/bytealg.IndexString", "internal/reflectlite.ValueOf", "(internal/reflectlite.Value).Type", "(internal/reflectlite.Value).IsNil", "internal/reflectlite.TypeOf", "(internal/reflectlite.Value).Elem", "(internal/reflectlite.Value).Set"], unfollowed := true, recurses := true, named := ["vennhouse/atom.kinds", "internal/strconv.uint64pow10", "math/bits.deBruijn32tab", "math/bits.deBruijn64tab", "vennhouse/text.words", "unicode/utf8.first", "unicode/utf8.acceptRanges", "internal/bytealg.MaxLen", "strconv.ErrSyntax", "strconv.ErrRange", "errors.errorType"], apart := false, laid := [("math/bits.deBruijn32tab", laid_math_bits_deBruijn32tab), ("math/bits.deBruijn64tab", laid_math_bits_deBruijn64tab), ("internal/strconv.uint64pow10", laid_internal_strconv_uint64pow10), ("unicode/utf8.acceptRanges", laid_unicode_utf8_acceptRanges), ("errors.errorType", laid_errors_errorType), ("strconv.ErrRange", laid_strconv_ErrRange), ("strconv.ErrSyntax", laid_strconv_ErrSyntax), ("vennhouse/atom.kinds", laid_vennhouse_atom_kinds), ("vennhouse/text.words", laid_vennhouse_text_words), ("unicode/utf8.first", laid_unicode_utf8_first)] }
def TextLinesSaid : Prop := textLinesRow.holds Tryz.pinned (OpenSpec.ofChange textLinesSpec)

/-- ITS FALSE NEIGHBOUR: 'it returns false'. Refute it at one input. -/
def textLinesWrong : ChangeSpec := { name := "textLines", fn := fun _ => fun
  | [d] => { results := [.lit (.bool false)], args := [d] }
  | _ => none }
def TextLinesWrongFalsely : Prop := textLinesRow.holds Tryz.pinned (OpenSpec.ofChange textLinesWrong)

/-- 'vennlaw2.TextTells': WHATEVER THE INPUT: true; the input reads as it did. -/
def textTellsSpec : ChangeSpec := { name := "textTells", fn := fun _ => fun
  | [d1, d2] => { results := [.lit (.bool true)], args := [d1, d2] }
  | _ => none }
def textTellsRow : OpenClaim := { program := "ytpfinfneclmjkaagreatdoor", sum := "2b7dcd6f24e6f30e445c62bc9882b9c32909b5c4e7092484fda8d62449f9d0ad", func := "vennhouse/vennlaw2.TextTells", spec := "textTells", inPlace := ["internal/abi.NoEscape", "internal/bytealg.MakeNoZero", "internal/reflectlite.ValueOf", "(internal/reflectlite.Value).Type", "(internal/reflectlite.Value).IsNil", "internal/reflectlite.TypeOf", "(internal/reflectlite.Value).Elem", "(internal/reflectlite.Value).Set", "internal/bytealg.CountString", "internal/bytealg.IndexByteString", "internal/bytealg.IndexString"], unfollowed := true, recurses := true, named := ["vennhouse/atom.kinds", "internal/strconv.uint64pow10", "math/bits.deBruijn32tab", "math/bits.deBruijn64tab", "vennhouse/text.words", "errors.errorType", "unicode/utf8.first", "unicode/utf8.acceptRanges", "internal/bytealg.MaxLen", "strconv.ErrSyntax", "strconv.ErrRange"], apart := false, laid := [("math/bits.deBruijn32tab", laid_math_bits_deBruijn32tab), ("math/bits.deBruijn64tab", laid_math_bits_deBruijn64tab), ("internal/strconv.uint64pow10", laid_internal_strconv_uint64pow10), ("unicode/utf8.acceptRanges", laid_unicode_utf8_acceptRanges), ("errors.errorType", laid_errors_errorType), ("strconv.ErrRange", laid_strconv_ErrRange), ("strconv.ErrSyntax", laid_strconv_ErrSyntax), ("vennhouse/atom.kinds", laid_vennhouse_atom_kinds), ("vennhouse/text.words", laid_vennhouse_text_words), ("unicode/utf8.first", laid_unicode_utf8_first)] }
def TextTellsSaid : Prop := textTellsRow.holds Tryz.pinned (OpenSpec.ofChange textTellsSpec)

/-- ITS FALSE NEIGHBOUR: 'it returns false'. Refute it at one input. -/
def textTellsWrong : ChangeSpec := { name := "textTells", fn := fun _ => fun
  | [d1, d2] => { results := [.lit (.bool false)], args := [d1, d2] }
  | _ => none }
def TextTellsWrongFalsely : Prop := textTellsRow.holds Tryz.pinned (OpenSpec.ofChange textTellsWrong)

/-- 'vennlaw1.AtomTells': WHATEVER THE INPUT: true; the input reads as it did. -/
def atomTellsSpec : ChangeSpec := { name := "atomTells", fn := fun _ => fun
  | [d1, d2, d3] => { results := [.lit (.bool true)], args := [d1, d2, d3] }
  | _ => none }
def atomTellsRow : OpenClaim := { program := "ytpfinfneclmjkaagreatdoor", sum := "2b7dcd6f24e6f30e445c62bc9882b9c32909b5c4e7092484fda8d62449f9d0ad", func := "vennhouse/vennlaw1.AtomTells", spec := "atomTells", inPlace := ["internal/reflectlite.ValueOf", "(internal/reflectlite.Value).Type", "(internal/reflectlite.Value).IsNil", "internal/reflectlite.TypeOf", "(internal/reflectlite.Value).Elem", "(internal/reflectlite.Value).Set", "internal/abi.NoEscape", "internal/bytealg.MakeNoZero", "internal/bytealg.CountString", "internal/bytealg.IndexByteString", "internal/bytealg.IndexString"], unfollowed := true, recurses := true, named := ["vennhouse/atom.kinds", "errors.errorType", "internal/strconv.uint64pow10", "math/bits.deBruijn32tab", "math/bits.deBruijn64tab", "unicode/utf8.first", "unicode/utf8.acceptRanges", "internal/bytealg.MaxLen", "strconv.ErrSyntax", "strconv.ErrRange"], apart := false, laid := [("math/bits.deBruijn32tab", laid_math_bits_deBruijn32tab), ("math/bits.deBruijn64tab", laid_math_bits_deBruijn64tab), ("internal/strconv.uint64pow10", laid_internal_strconv_uint64pow10), ("unicode/utf8.acceptRanges", laid_unicode_utf8_acceptRanges), ("errors.errorType", laid_errors_errorType), ("strconv.ErrRange", laid_strconv_ErrRange), ("strconv.ErrSyntax", laid_strconv_ErrSyntax), ("vennhouse/atom.kinds", laid_vennhouse_atom_kinds), ("unicode/utf8.first", laid_unicode_utf8_first)] }
def AtomTellsSaid : Prop := atomTellsRow.holds Tryz.pinned (OpenSpec.ofChange atomTellsSpec)

/-- ITS FALSE NEIGHBOUR: 'it returns false'. Refute it at one input. -/
def atomTellsWrong : ChangeSpec := { name := "atomTells", fn := fun _ => fun
  | [d1, d2, d3] => { results := [.lit (.bool false)], args := [d1, d2, d3] }
  | _ => none }
def AtomTellsWrongFalsely : Prop := atomTellsRow.holds Tryz.pinned (OpenSpec.ofChange atomTellsWrong)

/-- 'vennlaw3.RunAnswers': WHATEVER THE INPUT: true; the input reads as it did. -/
def runAnswersSpec : ChangeSpec := { name := "runAnswers", fn := fun _ => fun
  | [d] => { results := [.lit (.bool true)], args := [d] }
  | _ => none }
def runAnswersRow : OpenClaim := { program := "ytpfinfneclmjkaagreatdoor", sum := "2b7dcd6f24e6f30e445c62bc9882b9c32909b5c4e7092484fda8d62449f9d0ad", func := "vennhouse/vennlaw3.RunAnswers", spec := "runAnswers", inPlace := ["internal/bytealg.IndexByteString", "internal/bytealg.IndexString", "internal/bytealg.CountString", "internal/abi.NoEscape", "internal/bytealg.MakeNoZero", "internal/reflectlite.ValueOf", "(internal/reflectlite.Value).Type", "(internal/reflectlite.Value).IsNil", "internal/reflectlite.TypeOf", "(internal/reflectlite.Value).Elem", "(internal/reflectlite.Value).Set"], unfollowed := true, recurses := true, named := ["vennhouse/run.unread", "internal/bytealg.MaxLen", "vennhouse/atom.kinds", "internal/strconv.uint64pow10", "math/bits.deBruijn32tab", "math/bits.deBruijn64tab", "unicode/utf8.first", "unicode/utf8.acceptRanges", "strconv.ErrSyntax", "strconv.ErrRange", "errors.errorType"], apart := false, laid := [("math/bits.deBruijn32tab", laid_math_bits_deBruijn32tab), ("math/bits.deBruijn64tab", laid_math_bits_deBruijn64tab), ("internal/strconv.uint64pow10", laid_internal_strconv_uint64pow10), ("unicode/utf8.acceptRanges", laid_unicode_utf8_acceptRanges), ("errors.errorType", laid_errors_errorType), ("strconv.ErrRange", laid_strconv_ErrRange), ("strconv.ErrSyntax", laid_strconv_ErrSyntax), ("vennhouse/atom.kinds", laid_vennhouse_atom_kinds), ("vennhouse/run.unread", laid_vennhouse_run_unread), ("unicode/utf8.first", laid_unicode_utf8_first)] }
def RunAnswersSaid : Prop := runAnswersRow.holds Tryz.pinned (OpenSpec.ofChange runAnswersSpec)

/-- ITS FALSE NEIGHBOUR: 'it returns false'. Refute it at one input. -/
def runAnswersWrong : ChangeSpec := { name := "runAnswers", fn := fun _ => fun
  | [d] => { results := [.lit (.bool false)], args := [d] }
  | _ => none }
def RunAnswersWrongFalsely : Prop := runAnswersRow.holds Tryz.pinned (OpenSpec.ofChange runAnswersWrong)

/-- 'vennlaw3.RunBegins': WHATEVER THE INPUT: true; the input reads as it did. -/
def runBeginsSpec : ChangeSpec := { name := "runBegins", fn := fun _ => fun
  | [d1, d2] => { results := [.lit (.bool true)], args := [d1, d2] }
  | _ => none }
def runBeginsRow : OpenClaim := { program := "ytpfinfneclmjkaagreatdoor", sum := "2b7dcd6f24e6f30e445c62bc9882b9c32909b5c4e7092484fda8d62449f9d0ad", func := "vennhouse/vennlaw3.RunBegins", spec := "runBegins", inPlace := ["internal/bytealg.IndexByteString", "internal/bytealg.IndexString", "internal/bytealg.CountString", "internal/abi.NoEscape", "internal/bytealg.MakeNoZero", "internal/reflectlite.ValueOf", "(internal/reflectlite.Value).Type", "(internal/reflectlite.Value).IsNil", "internal/reflectlite.TypeOf", "(internal/reflectlite.Value).Elem", "(internal/reflectlite.Value).Set"], unfollowed := true, recurses := true, named := ["vennhouse/run.unread", "internal/bytealg.MaxLen", "vennhouse/atom.kinds", "internal/strconv.uint64pow10", "math/bits.deBruijn32tab", "math/bits.deBruijn64tab", "unicode/utf8.first", "unicode/utf8.acceptRanges", "strconv.ErrSyntax", "strconv.ErrRange", "errors.errorType"], apart := false, laid := [("math/bits.deBruijn32tab", laid_math_bits_deBruijn32tab), ("math/bits.deBruijn64tab", laid_math_bits_deBruijn64tab), ("internal/strconv.uint64pow10", laid_internal_strconv_uint64pow10), ("unicode/utf8.acceptRanges", laid_unicode_utf8_acceptRanges), ("errors.errorType", laid_errors_errorType), ("strconv.ErrRange", laid_strconv_ErrRange), ("strconv.ErrSyntax", laid_strconv_ErrSyntax), ("vennhouse/atom.kinds", laid_vennhouse_atom_kinds), ("vennhouse/run.unread", laid_vennhouse_run_unread), ("unicode/utf8.first", laid_unicode_utf8_first)] }
def RunBeginsSaid : Prop := runBeginsRow.holds Tryz.pinned (OpenSpec.ofChange runBeginsSpec)

/-- ITS FALSE NEIGHBOUR: 'it returns false'. Refute it at one input. -/
def runBeginsWrong : ChangeSpec := { name := "runBegins", fn := fun _ => fun
  | [d1, d2] => { results := [.lit (.bool false)], args := [d1, d2] }
  | _ => none }
def RunBeginsWrongFalsely : Prop := runBeginsRow.holds Tryz.pinned (OpenSpec.ofChange runBeginsWrong)

/-- 'vennlaw3.RunCounts': WHATEVER THE INPUT: true; the input reads as it did. -/
def runCountsSpec : ChangeSpec := { name := "runCounts", fn := fun _ => fun
  | [d1, d2] => { results := [.lit (.bool true)], args := [d1, d2] }
  | _ => none }
def runCountsRow : OpenClaim := { program := "ytpfinfneclmjkaagreatdoor", sum := "2b7dcd6f24e6f30e445c62bc9882b9c32909b5c4e7092484fda8d62449f9d0ad", func := "vennhouse/vennlaw3.RunCounts", spec := "runCounts", inPlace := ["internal/bytealg.IndexByteString", "internal/bytealg.IndexString", "internal/bytealg.CountString", "internal/abi.NoEscape", "internal/bytealg.MakeNoZero", "internal/reflectlite.ValueOf", "(internal/reflectlite.Value).Type", "(internal/reflectlite.Value).IsNil", "internal/reflectlite.TypeOf", "(internal/reflectlite.Value).Elem", "(internal/reflectlite.Value).Set"], unfollowed := true, recurses := true, named := ["vennhouse/run.unread", "internal/bytealg.MaxLen", "vennhouse/atom.kinds", "internal/strconv.uint64pow10", "math/bits.deBruijn32tab", "math/bits.deBruijn64tab", "unicode/utf8.first", "unicode/utf8.acceptRanges", "strconv.ErrSyntax", "strconv.ErrRange", "errors.errorType"], apart := false, laid := [("math/bits.deBruijn32tab", laid_math_bits_deBruijn32tab), ("math/bits.deBruijn64tab", laid_math_bits_deBruijn64tab), ("internal/strconv.uint64pow10", laid_internal_strconv_uint64pow10), ("unicode/utf8.acceptRanges", laid_unicode_utf8_acceptRanges), ("errors.errorType", laid_errors_errorType), ("strconv.ErrRange", laid_strconv_ErrRange), ("strconv.ErrSyntax", laid_strconv_ErrSyntax), ("vennhouse/atom.kinds", laid_vennhouse_atom_kinds), ("vennhouse/run.unread", laid_vennhouse_run_unread), ("unicode/utf8.first", laid_unicode_utf8_first)] }
def RunCountsSaid : Prop := runCountsRow.holds Tryz.pinned (OpenSpec.ofChange runCountsSpec)

/-- ITS FALSE NEIGHBOUR: 'it returns false'. Refute it at one input. -/
def runCountsWrong : ChangeSpec := { name := "runCounts", fn := fun _ => fun
  | [d1, d2] => { results := [.lit (.bool false)], args := [d1, d2] }
  | _ => none }
def RunCountsWrongFalsely : Prop := runCountsRow.holds Tryz.pinned (OpenSpec.ofChange runCountsWrong)

/-- 'venntop.TopNames': WHATEVER THE INPUT: true; the input reads as it did. -/
def topNamesSpec : ChangeSpec := { name := "topNames", fn := fun _ => fun
  | [d1, d2, d3, d4, d5] => { results := [.lit (.bool true)], args := [d1, d2, d3, d4, d5] }
  | _ => none }
def topNamesRow : OpenClaim := { program := "ytpfinfneclmjkaagreatdoor", sum := "2b7dcd6f24e6f30e445c62bc9882b9c32909b5c4e7092484fda8d62449f9d0ad", func := "vennhouse/venntop.TopNames", spec := "topNames", inPlace := ["internal/abi.NoEscape", "internal/bytealg.MakeNoZero", "internal/bytealg.CountString", "internal/bytealg.IndexByteString", "internal/bytealg.IndexString", "internal/reflectlite.ValueOf", "(internal/reflectlite.Value).Type", "(internal/reflectlite.Value).IsNil", "internal/reflectlite.TypeOf", "(internal/reflectlite.Value).Elem", "(internal/reflectlite.Value).Set"], unfollowed := true, recurses := true, named := ["vennhouse/atom.kinds", "internal/strconv.uint64pow10", "math/bits.deBruijn32tab", "math/bits.deBruijn64tab", "vennhouse/text.words", "unicode/utf8.first", "unicode/utf8.acceptRanges", "internal/bytealg.MaxLen", "strconv.ErrSyntax", "strconv.ErrRange", "errors.errorType"], apart := false, laid := [("math/bits.deBruijn32tab", laid_math_bits_deBruijn32tab), ("math/bits.deBruijn64tab", laid_math_bits_deBruijn64tab), ("internal/strconv.uint64pow10", laid_internal_strconv_uint64pow10), ("unicode/utf8.acceptRanges", laid_unicode_utf8_acceptRanges), ("errors.errorType", laid_errors_errorType), ("strconv.ErrRange", laid_strconv_ErrRange), ("strconv.ErrSyntax", laid_strconv_ErrSyntax), ("vennhouse/atom.kinds", laid_vennhouse_atom_kinds), ("vennhouse/text.words", laid_vennhouse_text_words), ("unicode/utf8.first", laid_unicode_utf8_first)] }
def TopNamesSaid : Prop := topNamesRow.holds Tryz.pinned (OpenSpec.ofChange topNamesSpec)

/-- ITS FALSE NEIGHBOUR: 'it returns false'. Refute it at one input. -/
def topNamesWrong : ChangeSpec := { name := "topNames", fn := fun _ => fun
  | [d1, d2, d3, d4, d5] => { results := [.lit (.bool false)], args := [d1, d2, d3, d4, d5] }
  | _ => none }
def TopNamesWrongFalsely : Prop := topNamesRow.holds Tryz.pinned (OpenSpec.ofChange topNamesWrong)

/- THE SECOND FORM. 'bulk': how many values and letters a reading holds, each counted each time it is reached (what is shared counts as often as it is met; a slice's spare places count too). A statement '..UptoSaid' is the law's where the arguments, and the package variables that the reading takes, are together of bulk at most 1048576: NARROWER than '..Said'. Prove '..Said' where nothing that the law and all that it calls make is longer than what came in: it says more and counts as full. Else prove '..UptoSaid'. A law counts once. -/
mutual
def uptoBulk {H : Type} : DataW H → Nat
  | .lit (.string bytes) => bytes.length + 1
  | .lit _ => 1
  | .nil => 1
  | .ptr d => uptoBulk d + 1
  | .slice elems spare => uptoBulkAll elems + uptoBulkAll spare + 1
  | .agg parts => uptoBulkAll parts + 1
  | .iface _ d => uptoBulk d + 1
  | .map entries => uptoBulkEntries entries + 1
  | .held _ => 1
def uptoBulkAll {H : Type} : List (DataW H) → Nat
  | [] => 0
  | d :: r => uptoBulk d + uptoBulkAll r
def uptoBulkEntries {H : Type} : List (Lit × DataW H) → Nat
  | [] => 0
  | x :: r => uptoBulkEntry x + uptoBulkEntries r
def uptoBulkEntry {H : Type} : Lit × DataW H → Nat
  | (.string bytes, d) => bytes.length + uptoBulk d + 1
  | (_, d) => uptoBulk d + 1
 end
def uptoSmall : (H : Type) → List (DataW H) → Bool := fun _ ds => decide (uptoBulkAll ds ≤ 1048576)
def OpenSpec.upto (s : _root_.Go.ChangeSpec) : _root_.Go.OpenSpec := { _root_.Go.OpenSpec.ofChange s with cond := some uptoSmall }

/-- 'venntop.TopThree', WHERE WHAT IT READS IS OF BULK AT MOST 1048576: true; the input reads as it did. -/
def topThreeUptoRow : OpenClaim := { program := "ytpfinfneclmjkaagreatdoor", sum := "2b7dcd6f24e6f30e445c62bc9882b9c32909b5c4e7092484fda8d62449f9d0ad", func := "vennhouse/venntop.TopThree", spec := "topThree", inPlace := ["internal/reflectlite.ValueOf", "(internal/reflectlite.Value).Type", "(internal/reflectlite.Value).IsNil", "internal/reflectlite.TypeOf", "(internal/reflectlite.Value).Elem", "(internal/reflectlite.Value).Set"], unfollowed := true, recurses := true, named := ["vennhouse/atom.kinds", "errors.errorType"], apart := false, laid := [("errors.errorType", laid_errors_errorType), ("vennhouse/atom.kinds", laid_vennhouse_atom_kinds)], narrowed := true }
def TopThreeUptoSaid : Prop := topThreeUptoRow.holds Tryz.pinned (OpenSpec.upto topThreeSpec)

/-- 'venntop.TopSaid', WHERE WHAT IT READS IS OF BULK AT MOST 1048576: true; the input reads as it did. -/
def topSaidUptoRow : OpenClaim := { program := "ytpfinfneclmjkaagreatdoor", sum := "2b7dcd6f24e6f30e445c62bc9882b9c32909b5c4e7092484fda8d62449f9d0ad", func := "vennhouse/venntop.TopSaid", spec := "topSaid", inPlace := ["internal/abi.NoEscape", "internal/bytealg.MakeNoZero", "internal/bytealg.CountString", "internal/bytealg.IndexByteString", "internal/bytealg.IndexString", "internal/reflectlite.ValueOf", "(internal/reflectlite.Value).Type", "(internal/reflectlite.Value).IsNil", "internal/reflectlite.TypeOf", "(internal/reflectlite.Value).Elem", "(internal/reflectlite.Value).Set"], unfollowed := true, recurses := true, named := ["vennhouse/atom.kinds", "internal/strconv.uint64pow10", "math/bits.deBruijn32tab", "math/bits.deBruijn64tab", "internal/bytealg.MaxLen", "errors.errorType"], apart := false, laid := [("math/bits.deBruijn32tab", laid_math_bits_deBruijn32tab), ("math/bits.deBruijn64tab", laid_math_bits_deBruijn64tab), ("internal/strconv.uint64pow10", laid_internal_strconv_uint64pow10), ("errors.errorType", laid_errors_errorType), ("vennhouse/atom.kinds", laid_vennhouse_atom_kinds)], narrowed := true }
def TopSaidUptoSaid : Prop := topSaidUptoRow.holds Tryz.pinned (OpenSpec.upto topSaidSpec)

/-- 'vennlaw3.LogKeeps', WHERE WHAT IT READS IS OF BULK AT MOST 1048576: true; the input reads as it did. -/
def logKeepsUptoRow : OpenClaim := { program := "ytpfinfneclmjkaagreatdoor", sum := "2b7dcd6f24e6f30e445c62bc9882b9c32909b5c4e7092484fda8d62449f9d0ad", func := "vennhouse/vennlaw3.LogKeeps", spec := "logKeeps", inPlace := ["internal/abi.NoEscape", "internal/bytealg.MakeNoZero", "internal/bytealg.CountString", "internal/bytealg.IndexByteString", "internal/bytealg.IndexString", "internal/reflectlite.ValueOf", "(internal/reflectlite.Value).Type", "(internal/reflectlite.Value).IsNil", "internal/reflectlite.TypeOf", "(internal/reflectlite.Value).Elem", "(internal/reflectlite.Value).Set"], unfollowed := true, recurses := true, named := ["vennhouse/atom.kinds", "internal/strconv.uint64pow10", "math/bits.deBruijn32tab", "math/bits.deBruijn64tab", "internal/bytealg.MaxLen", "errors.errorType"], apart := false, laid := [("math/bits.deBruijn32tab", laid_math_bits_deBruijn32tab), ("math/bits.deBruijn64tab", laid_math_bits_deBruijn64tab), ("internal/strconv.uint64pow10", laid_internal_strconv_uint64pow10), ("errors.errorType", laid_errors_errorType), ("vennhouse/atom.kinds", laid_vennhouse_atom_kinds)], narrowed := true }
def LogKeepsUptoSaid : Prop := logKeepsUptoRow.holds Tryz.pinned (OpenSpec.upto logKeepsSpec)

/-- 'vennlaw3.LogStops', WHERE WHAT IT READS IS OF BULK AT MOST 1048576: true; the input reads as it did. -/
def logStopsUptoRow : OpenClaim := { program := "ytpfinfneclmjkaagreatdoor", sum := "2b7dcd6f24e6f30e445c62bc9882b9c32909b5c4e7092484fda8d62449f9d0ad", func := "vennhouse/vennlaw3.LogStops", spec := "logStops", inPlace := ["internal/abi.NoEscape", "internal/bytealg.MakeNoZero", "internal/reflectlite.ValueOf", "(internal/reflectlite.Value).Type", "(internal/reflectlite.Value).IsNil", "internal/reflectlite.TypeOf", "(internal/reflectlite.Value).Elem", "(internal/reflectlite.Value).Set", "internal/bytealg.CountString", "internal/bytealg.IndexByteString", "internal/bytealg.IndexString"], unfollowed := true, recurses := true, named := ["vennhouse/atom.kinds", "internal/strconv.uint64pow10", "math/bits.deBruijn32tab", "math/bits.deBruijn64tab", "errors.errorType", "internal/bytealg.MaxLen"], apart := false, laid := [("math/bits.deBruijn32tab", laid_math_bits_deBruijn32tab), ("math/bits.deBruijn64tab", laid_math_bits_deBruijn64tab), ("internal/strconv.uint64pow10", laid_internal_strconv_uint64pow10), ("errors.errorType", laid_errors_errorType), ("vennhouse/atom.kinds", laid_vennhouse_atom_kinds)], narrowed := true }
def LogStopsUptoSaid : Prop := logStopsUptoRow.holds Tryz.pinned (OpenSpec.upto logStopsSpec)

/-- 'vennlaw1.ModelTells', WHERE WHAT IT READS IS OF BULK AT MOST 1048576: true; the input reads as it did. -/
def modelTellsUptoRow : OpenClaim := { program := "ytpfinfneclmjkaagreatdoor", sum := "2b7dcd6f24e6f30e445c62bc9882b9c32909b5c4e7092484fda8d62449f9d0ad", func := "vennhouse/vennlaw1.ModelTells", spec := "modelTells", inPlace := ["internal/reflectlite.ValueOf", "(internal/reflectlite.Value).Type", "(internal/reflectlite.Value).IsNil", "internal/reflectlite.TypeOf", "(internal/reflectlite.Value).Elem", "(internal/reflectlite.Value).Set"], unfollowed := true, recurses := true, named := ["vennhouse/atom.kinds", "errors.errorType"], apart := false, laid := [("errors.errorType", laid_errors_errorType), ("vennhouse/atom.kinds", laid_vennhouse_atom_kinds)], narrowed := true }
def ModelTellsUptoSaid : Prop := modelTellsUptoRow.holds Tryz.pinned (OpenSpec.upto modelTellsSpec)

/-- 'vennlaw4.ModelMany', WHERE WHAT IT READS IS OF BULK AT MOST 1048576: true; the input reads as it did. -/
def modelManyUptoRow : OpenClaim := { program := "ytpfinfneclmjkaagreatdoor", sum := "2b7dcd6f24e6f30e445c62bc9882b9c32909b5c4e7092484fda8d62449f9d0ad", func := "vennhouse/vennlaw4.ModelMany", spec := "modelMany", inPlace := ["internal/reflectlite.ValueOf", "(internal/reflectlite.Value).Type", "(internal/reflectlite.Value).IsNil", "internal/reflectlite.TypeOf", "(internal/reflectlite.Value).Elem", "(internal/reflectlite.Value).Set"], unfollowed := true, recurses := true, named := ["vennhouse/atom.kinds", "errors.errorType"], apart := false, laid := [("errors.errorType", laid_errors_errorType), ("vennhouse/atom.kinds", laid_vennhouse_atom_kinds)], narrowed := true }
def ModelManyUptoSaid : Prop := modelManyUptoRow.holds Tryz.pinned (OpenSpec.upto modelManySpec)

/-- 'vennlaw4.LeastMany', WHERE WHAT IT READS IS OF BULK AT MOST 1048576: true; the input reads as it did. -/
def leastManyUptoRow : OpenClaim := { program := "ytpfinfneclmjkaagreatdoor", sum := "2b7dcd6f24e6f30e445c62bc9882b9c32909b5c4e7092484fda8d62449f9d0ad", func := "vennhouse/vennlaw4.LeastMany", spec := "leastMany", inPlace := ["internal/reflectlite.ValueOf", "(internal/reflectlite.Value).Type", "(internal/reflectlite.Value).IsNil", "internal/reflectlite.TypeOf", "(internal/reflectlite.Value).Elem", "(internal/reflectlite.Value).Set"], unfollowed := true, recurses := true, named := ["vennhouse/atom.kinds", "errors.errorType"], apart := false, laid := [("errors.errorType", laid_errors_errorType), ("vennhouse/atom.kinds", laid_vennhouse_atom_kinds)], narrowed := true }
def LeastManyUptoSaid : Prop := leastManyUptoRow.holds Tryz.pinned (OpenSpec.upto leastManySpec)

/-- 'vennlaw2.LeastTells', WHERE WHAT IT READS IS OF BULK AT MOST 1048576: true; the input reads as it did. -/
def leastTellsUptoRow : OpenClaim := { program := "ytpfinfneclmjkaagreatdoor", sum := "2b7dcd6f24e6f30e445c62bc9882b9c32909b5c4e7092484fda8d62449f9d0ad", func := "vennhouse/vennlaw2.LeastTells", spec := "leastTells", inPlace := ["internal/reflectlite.ValueOf", "(internal/reflectlite.Value).Type", "(internal/reflectlite.Value).IsNil", "internal/reflectlite.TypeOf", "(internal/reflectlite.Value).Elem", "(internal/reflectlite.Value).Set"], unfollowed := true, recurses := true, named := ["vennhouse/atom.kinds", "errors.errorType"], apart := false, laid := [("errors.errorType", laid_errors_errorType), ("vennhouse/atom.kinds", laid_vennhouse_atom_kinds)], narrowed := true }
def LeastTellsUptoSaid : Prop := leastTellsUptoRow.holds Tryz.pinned (OpenSpec.upto leastTellsSpec)

/-- 'vennlaw2.AlikeWorlds', WHERE WHAT IT READS IS OF BULK AT MOST 1048576: true; the input reads as it did. -/
def alikeWorldsUptoRow : OpenClaim := { program := "ytpfinfneclmjkaagreatdoor", sum := "2b7dcd6f24e6f30e445c62bc9882b9c32909b5c4e7092484fda8d62449f9d0ad", func := "vennhouse/vennlaw2.AlikeWorlds", spec := "alikeWorlds", inPlace := ["internal/reflectlite.ValueOf", "(internal/reflectlite.Value).Type", "(internal/reflectlite.Value).IsNil", "internal/reflectlite.TypeOf", "(internal/reflectlite.Value).Elem", "(internal/reflectlite.Value).Set"], unfollowed := true, recurses := true, named := ["vennhouse/atom.kinds", "errors.errorType"], apart := false, laid := [("errors.errorType", laid_errors_errorType), ("vennhouse/atom.kinds", laid_vennhouse_atom_kinds)], narrowed := true }
def AlikeWorldsUptoSaid : Prop := alikeWorldsUptoRow.holds Tryz.pinned (OpenSpec.upto alikeWorldsSpec)

/-- 'vennlaw1.ModelHolds', WHERE WHAT IT READS IS OF BULK AT MOST 1048576: true; the input reads as it did. -/
def modelHoldsUptoRow : OpenClaim := { program := "ytpfinfneclmjkaagreatdoor", sum := "2b7dcd6f24e6f30e445c62bc9882b9c32909b5c4e7092484fda8d62449f9d0ad", func := "vennhouse/vennlaw1.ModelHolds", spec := "modelHolds", inPlace := ["internal/reflectlite.ValueOf", "(internal/reflectlite.Value).Type", "(internal/reflectlite.Value).IsNil", "internal/reflectlite.TypeOf", "(internal/reflectlite.Value).Elem", "(internal/reflectlite.Value).Set"], unfollowed := true, recurses := true, named := ["vennhouse/atom.kinds", "errors.errorType"], apart := false, laid := [("errors.errorType", laid_errors_errorType), ("vennhouse/atom.kinds", laid_vennhouse_atom_kinds)], narrowed := true }
def ModelHoldsUptoSaid : Prop := modelHoldsUptoRow.holds Tryz.pinned (OpenSpec.upto modelHoldsSpec)

/-- 'vennlaw2.WorldsAll', WHERE WHAT IT READS IS OF BULK AT MOST 1048576: true; the input reads as it did. -/
def worldsAllUptoRow : OpenClaim := { program := "ytpfinfneclmjkaagreatdoor", sum := "2b7dcd6f24e6f30e445c62bc9882b9c32909b5c4e7092484fda8d62449f9d0ad", func := "vennhouse/vennlaw2.WorldsAll", spec := "worldsAll", inPlace := ["internal/reflectlite.ValueOf", "(internal/reflectlite.Value).Type", "(internal/reflectlite.Value).IsNil", "internal/reflectlite.TypeOf", "(internal/reflectlite.Value).Elem", "(internal/reflectlite.Value).Set"], unfollowed := true, recurses := true, named := ["vennhouse/atom.kinds", "errors.errorType"], apart := false, laid := [("errors.errorType", laid_errors_errorType), ("vennhouse/atom.kinds", laid_vennhouse_atom_kinds)], narrowed := true }
def WorldsAllUptoSaid : Prop := worldsAllUptoRow.holds Tryz.pinned (OpenSpec.upto worldsAllSpec)

/-- 'vennlaw2.LeastFew', WHERE WHAT IT READS IS OF BULK AT MOST 1048576: true; the input reads as it did. -/
def leastFewUptoRow : OpenClaim := { program := "ytpfinfneclmjkaagreatdoor", sum := "2b7dcd6f24e6f30e445c62bc9882b9c32909b5c4e7092484fda8d62449f9d0ad", func := "vennhouse/vennlaw2.LeastFew", spec := "leastFew", inPlace := ["internal/reflectlite.ValueOf", "(internal/reflectlite.Value).Type", "(internal/reflectlite.Value).IsNil", "internal/reflectlite.TypeOf", "(internal/reflectlite.Value).Elem", "(internal/reflectlite.Value).Set"], unfollowed := true, recurses := true, named := ["vennhouse/atom.kinds", "errors.errorType"], apart := false, laid := [("errors.errorType", laid_errors_errorType), ("vennhouse/atom.kinds", laid_vennhouse_atom_kinds)], narrowed := true }
def LeastFewUptoSaid : Prop := leastFewUptoRow.holds Tryz.pinned (OpenSpec.upto leastFewSpec)

/-- 'vennlaw4.TextLines', WHERE WHAT IT READS IS OF BULK AT MOST 1048576: true; the input reads as it did. -/
def textLinesUptoRow : OpenClaim := { program := "ytpfinfneclmjkaagreatdoor", sum := "2b7dcd6f24e6f30e445c62bc9882b9c32909b5c4e7092484fda8d62449f9d0ad", func := "vennhouse/vennlaw4.TextLines", spec := "textLines", inPlace := ["internal/abi.NoEscape", "internal/bytealg.MakeNoZero", "internal/bytealg.CountString", "internal/bytealg.IndexByteString", "internal/bytealg.IndexString", "internal/reflectlite.ValueOf", "(internal/reflectlite.Value).Type", "(internal/reflectlite.Value).IsNil", "internal/reflectlite.TypeOf", "(internal/reflectlite.Value).Elem", "(internal/reflectlite.Value).Set"], unfollowed := true, recurses := true, named := ["vennhouse/atom.kinds", "internal/strconv.uint64pow10", "math/bits.deBruijn32tab", "math/bits.deBruijn64tab", "vennhouse/text.words", "unicode/utf8.first", "unicode/utf8.acceptRanges", "internal/bytealg.MaxLen", "strconv.ErrSyntax", "strconv.ErrRange", "errors.errorType"], apart := false, laid := [("math/bits.deBruijn32tab", laid_math_bits_deBruijn32tab), ("math/bits.deBruijn64tab", laid_math_bits_deBruijn64tab), ("internal/strconv.uint64pow10", laid_internal_strconv_uint64pow10), ("unicode/utf8.acceptRanges", laid_unicode_utf8_acceptRanges), ("errors.errorType", laid_errors_errorType), ("strconv.ErrRange", laid_strconv_ErrRange), ("strconv.ErrSyntax", laid_strconv_ErrSyntax), ("vennhouse/atom.kinds", laid_vennhouse_atom_kinds), ("vennhouse/text.words", laid_vennhouse_text_words), ("unicode/utf8.first", laid_unicode_utf8_first)], narrowed := true }
def TextLinesUptoSaid : Prop := textLinesUptoRow.holds Tryz.pinned (OpenSpec.upto textLinesSpec)

/-- 'vennlaw2.TextTells', WHERE WHAT IT READS IS OF BULK AT MOST 1048576: true; the input reads as it did. -/
def textTellsUptoRow : OpenClaim := { program := "ytpfinfneclmjkaagreatdoor", sum := "2b7dcd6f24e6f30e445c62bc9882b9c32909b5c4e7092484fda8d62449f9d0ad", func := "vennhouse/vennlaw2.TextTells", spec := "textTells", inPlace := ["internal/abi.NoEscape", "internal/bytealg.MakeNoZero", "internal/reflectlite.ValueOf", "(internal/reflectlite.Value).Type", "(internal/reflectlite.Value).IsNil", "internal/reflectlite.TypeOf", "(internal/reflectlite.Value).Elem", "(internal/reflectlite.Value).Set", "internal/bytealg.CountString", "internal/bytealg.IndexByteString", "internal/bytealg.IndexString"], unfollowed := true, recurses := true, named := ["vennhouse/atom.kinds", "internal/strconv.uint64pow10", "math/bits.deBruijn32tab", "math/bits.deBruijn64tab", "vennhouse/text.words", "errors.errorType", "unicode/utf8.first", "unicode/utf8.acceptRanges", "internal/bytealg.MaxLen", "strconv.ErrSyntax", "strconv.ErrRange"], apart := false, laid := [("math/bits.deBruijn32tab", laid_math_bits_deBruijn32tab), ("math/bits.deBruijn64tab", laid_math_bits_deBruijn64tab), ("internal/strconv.uint64pow10", laid_internal_strconv_uint64pow10), ("unicode/utf8.acceptRanges", laid_unicode_utf8_acceptRanges), ("errors.errorType", laid_errors_errorType), ("strconv.ErrRange", laid_strconv_ErrRange), ("strconv.ErrSyntax", laid_strconv_ErrSyntax), ("vennhouse/atom.kinds", laid_vennhouse_atom_kinds), ("vennhouse/text.words", laid_vennhouse_text_words), ("unicode/utf8.first", laid_unicode_utf8_first)], narrowed := true }
def TextTellsUptoSaid : Prop := textTellsUptoRow.holds Tryz.pinned (OpenSpec.upto textTellsSpec)

/-- 'vennlaw1.AtomTells', WHERE WHAT IT READS IS OF BULK AT MOST 1048576: true; the input reads as it did. -/
def atomTellsUptoRow : OpenClaim := { program := "ytpfinfneclmjkaagreatdoor", sum := "2b7dcd6f24e6f30e445c62bc9882b9c32909b5c4e7092484fda8d62449f9d0ad", func := "vennhouse/vennlaw1.AtomTells", spec := "atomTells", inPlace := ["internal/reflectlite.ValueOf", "(internal/reflectlite.Value).Type", "(internal/reflectlite.Value).IsNil", "internal/reflectlite.TypeOf", "(internal/reflectlite.Value).Elem", "(internal/reflectlite.Value).Set", "internal/abi.NoEscape", "internal/bytealg.MakeNoZero", "internal/bytealg.CountString", "internal/bytealg.IndexByteString", "internal/bytealg.IndexString"], unfollowed := true, recurses := true, named := ["vennhouse/atom.kinds", "errors.errorType", "internal/strconv.uint64pow10", "math/bits.deBruijn32tab", "math/bits.deBruijn64tab", "unicode/utf8.first", "unicode/utf8.acceptRanges", "internal/bytealg.MaxLen", "strconv.ErrSyntax", "strconv.ErrRange"], apart := false, laid := [("math/bits.deBruijn32tab", laid_math_bits_deBruijn32tab), ("math/bits.deBruijn64tab", laid_math_bits_deBruijn64tab), ("internal/strconv.uint64pow10", laid_internal_strconv_uint64pow10), ("unicode/utf8.acceptRanges", laid_unicode_utf8_acceptRanges), ("errors.errorType", laid_errors_errorType), ("strconv.ErrRange", laid_strconv_ErrRange), ("strconv.ErrSyntax", laid_strconv_ErrSyntax), ("vennhouse/atom.kinds", laid_vennhouse_atom_kinds), ("unicode/utf8.first", laid_unicode_utf8_first)], narrowed := true }
def AtomTellsUptoSaid : Prop := atomTellsUptoRow.holds Tryz.pinned (OpenSpec.upto atomTellsSpec)

/-- 'vennlaw3.RunAnswers', WHERE WHAT IT READS IS OF BULK AT MOST 1048576: true; the input reads as it did. -/
def runAnswersUptoRow : OpenClaim := { program := "ytpfinfneclmjkaagreatdoor", sum := "2b7dcd6f24e6f30e445c62bc9882b9c32909b5c4e7092484fda8d62449f9d0ad", func := "vennhouse/vennlaw3.RunAnswers", spec := "runAnswers", inPlace := ["internal/bytealg.IndexByteString", "internal/bytealg.IndexString", "internal/bytealg.CountString", "internal/abi.NoEscape", "internal/bytealg.MakeNoZero", "internal/reflectlite.ValueOf", "(internal/reflectlite.Value).Type", "(internal/reflectlite.Value).IsNil", "internal/reflectlite.TypeOf", "(internal/reflectlite.Value).Elem", "(internal/reflectlite.Value).Set"], unfollowed := true, recurses := true, named := ["vennhouse/run.unread", "internal/bytealg.MaxLen", "vennhouse/atom.kinds", "internal/strconv.uint64pow10", "math/bits.deBruijn32tab", "math/bits.deBruijn64tab", "unicode/utf8.first", "unicode/utf8.acceptRanges", "strconv.ErrSyntax", "strconv.ErrRange", "errors.errorType"], apart := false, laid := [("math/bits.deBruijn32tab", laid_math_bits_deBruijn32tab), ("math/bits.deBruijn64tab", laid_math_bits_deBruijn64tab), ("internal/strconv.uint64pow10", laid_internal_strconv_uint64pow10), ("unicode/utf8.acceptRanges", laid_unicode_utf8_acceptRanges), ("errors.errorType", laid_errors_errorType), ("strconv.ErrRange", laid_strconv_ErrRange), ("strconv.ErrSyntax", laid_strconv_ErrSyntax), ("vennhouse/atom.kinds", laid_vennhouse_atom_kinds), ("vennhouse/run.unread", laid_vennhouse_run_unread), ("unicode/utf8.first", laid_unicode_utf8_first)], narrowed := true }
def RunAnswersUptoSaid : Prop := runAnswersUptoRow.holds Tryz.pinned (OpenSpec.upto runAnswersSpec)

/-- 'vennlaw3.RunBegins', WHERE WHAT IT READS IS OF BULK AT MOST 1048576: true; the input reads as it did. -/
def runBeginsUptoRow : OpenClaim := { program := "ytpfinfneclmjkaagreatdoor", sum := "2b7dcd6f24e6f30e445c62bc9882b9c32909b5c4e7092484fda8d62449f9d0ad", func := "vennhouse/vennlaw3.RunBegins", spec := "runBegins", inPlace := ["internal/bytealg.IndexByteString", "internal/bytealg.IndexString", "internal/bytealg.CountString", "internal/abi.NoEscape", "internal/bytealg.MakeNoZero", "internal/reflectlite.ValueOf", "(internal/reflectlite.Value).Type", "(internal/reflectlite.Value).IsNil", "internal/reflectlite.TypeOf", "(internal/reflectlite.Value).Elem", "(internal/reflectlite.Value).Set"], unfollowed := true, recurses := true, named := ["vennhouse/run.unread", "internal/bytealg.MaxLen", "vennhouse/atom.kinds", "internal/strconv.uint64pow10", "math/bits.deBruijn32tab", "math/bits.deBruijn64tab", "unicode/utf8.first", "unicode/utf8.acceptRanges", "strconv.ErrSyntax", "strconv.ErrRange", "errors.errorType"], apart := false, laid := [("math/bits.deBruijn32tab", laid_math_bits_deBruijn32tab), ("math/bits.deBruijn64tab", laid_math_bits_deBruijn64tab), ("internal/strconv.uint64pow10", laid_internal_strconv_uint64pow10), ("unicode/utf8.acceptRanges", laid_unicode_utf8_acceptRanges), ("errors.errorType", laid_errors_errorType), ("strconv.ErrRange", laid_strconv_ErrRange), ("strconv.ErrSyntax", laid_strconv_ErrSyntax), ("vennhouse/atom.kinds", laid_vennhouse_atom_kinds), ("vennhouse/run.unread", laid_vennhouse_run_unread), ("unicode/utf8.first", laid_unicode_utf8_first)], narrowed := true }
def RunBeginsUptoSaid : Prop := runBeginsUptoRow.holds Tryz.pinned (OpenSpec.upto runBeginsSpec)

/-- 'vennlaw3.RunCounts', WHERE WHAT IT READS IS OF BULK AT MOST 1048576: true; the input reads as it did. -/
def runCountsUptoRow : OpenClaim := { program := "ytpfinfneclmjkaagreatdoor", sum := "2b7dcd6f24e6f30e445c62bc9882b9c32909b5c4e7092484fda8d62449f9d0ad", func := "vennhouse/vennlaw3.RunCounts", spec := "runCounts", inPlace := ["internal/bytealg.IndexByteString", "internal/bytealg.IndexString", "internal/bytealg.CountString", "internal/abi.NoEscape", "internal/bytealg.MakeNoZero", "internal/reflectlite.ValueOf", "(internal/reflectlite.Value).Type", "(internal/reflectlite.Value).IsNil", "internal/reflectlite.TypeOf", "(internal/reflectlite.Value).Elem", "(internal/reflectlite.Value).Set"], unfollowed := true, recurses := true, named := ["vennhouse/run.unread", "internal/bytealg.MaxLen", "vennhouse/atom.kinds", "internal/strconv.uint64pow10", "math/bits.deBruijn32tab", "math/bits.deBruijn64tab", "unicode/utf8.first", "unicode/utf8.acceptRanges", "strconv.ErrSyntax", "strconv.ErrRange", "errors.errorType"], apart := false, laid := [("math/bits.deBruijn32tab", laid_math_bits_deBruijn32tab), ("math/bits.deBruijn64tab", laid_math_bits_deBruijn64tab), ("internal/strconv.uint64pow10", laid_internal_strconv_uint64pow10), ("unicode/utf8.acceptRanges", laid_unicode_utf8_acceptRanges), ("errors.errorType", laid_errors_errorType), ("strconv.ErrRange", laid_strconv_ErrRange), ("strconv.ErrSyntax", laid_strconv_ErrSyntax), ("vennhouse/atom.kinds", laid_vennhouse_atom_kinds), ("vennhouse/run.unread", laid_vennhouse_run_unread), ("unicode/utf8.first", laid_unicode_utf8_first)], narrowed := true }
def RunCountsUptoSaid : Prop := runCountsUptoRow.holds Tryz.pinned (OpenSpec.upto runCountsSpec)

/-- 'venntop.TopNames', WHERE WHAT IT READS IS OF BULK AT MOST 1048576: true; the input reads as it did. -/
def topNamesUptoRow : OpenClaim := { program := "ytpfinfneclmjkaagreatdoor", sum := "2b7dcd6f24e6f30e445c62bc9882b9c32909b5c4e7092484fda8d62449f9d0ad", func := "vennhouse/venntop.TopNames", spec := "topNames", inPlace := ["internal/abi.NoEscape", "internal/bytealg.MakeNoZero", "internal/bytealg.CountString", "internal/bytealg.IndexByteString", "internal/bytealg.IndexString", "internal/reflectlite.ValueOf", "(internal/reflectlite.Value).Type", "(internal/reflectlite.Value).IsNil", "internal/reflectlite.TypeOf", "(internal/reflectlite.Value).Elem", "(internal/reflectlite.Value).Set"], unfollowed := true, recurses := true, named := ["vennhouse/atom.kinds", "internal/strconv.uint64pow10", "math/bits.deBruijn32tab", "math/bits.deBruijn64tab", "vennhouse/text.words", "unicode/utf8.first", "unicode/utf8.acceptRanges", "internal/bytealg.MaxLen", "strconv.ErrSyntax", "strconv.ErrRange", "errors.errorType"], apart := false, laid := [("math/bits.deBruijn32tab", laid_math_bits_deBruijn32tab), ("math/bits.deBruijn64tab", laid_math_bits_deBruijn64tab), ("internal/strconv.uint64pow10", laid_internal_strconv_uint64pow10), ("unicode/utf8.acceptRanges", laid_unicode_utf8_acceptRanges), ("errors.errorType", laid_errors_errorType), ("strconv.ErrRange", laid_strconv_ErrRange), ("strconv.ErrSyntax", laid_strconv_ErrSyntax), ("vennhouse/atom.kinds", laid_vennhouse_atom_kinds), ("vennhouse/text.words", laid_vennhouse_text_words), ("unicode/utf8.first", laid_unicode_utf8_first)], narrowed := true }
def TopNamesUptoSaid : Prop := topNamesUptoRow.holds Tryz.pinned (OpenSpec.upto topNamesSpec)

end Rows
end Go.Proofs.YtpfinfneclmjkaaGreatDoor
