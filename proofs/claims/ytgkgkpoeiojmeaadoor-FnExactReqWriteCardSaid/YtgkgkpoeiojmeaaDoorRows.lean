/-
  NARROWER THAN 'FOR EVERY INPUT', by the rows' own cells (each row's printed sentence says how): FnExactWirePut: laid · FnExactNameOk: laid · FnExactThingKey: laid · FnNameOk: laid · FnThingKey: laid · FnExactReqOk: laid · FnExactThingOk: laid · FnThingCost: laid · FnExactThingCost: laid · FnExactReqWrite: laid · FnExactWireGet: laid.
  DERIVED. THE GIVEN ROWS OF THIS SEAT. 11 by the template 'for every input the law returns true; each argument reads behind the call as it read before'; 0 by the template 'total and deterministic' (their statements: YtgkgkpoeiojmeaaDoorTotals.lean).
  GIVEN WITH THE SEED: the statements are not yours to turn. If you find one false, say at which input.
  Laid BY PROGRAM, IN A SANDBOX (cutbox-rows.mjs): the forced cells as the released guide's own fill.sh prints them over the translation 5715192cdefe5b75… (all of the seat's roots in one cut). By AI agents, Wed Nov 11 2026. No macro, syntax, notation, axiom, sorry.
-/
import Derived.Test.YtgkgkpoeiojmeaaDoorChecked
import GoSem.PinnedTables
import GoSem.Claim
import GoSem.ClaimJoined
import GoSem.ClaimMapViews
import Derived.JoinedTies
import Derived.KernelRfl
namespace Go.Proofs.YtgkgkpoeiojmeaaDoor
/- THE CELL 'sum', in the pinned program and in every row, IS THE sha256 OF THE DUMP (.gsa) THAT YtgkgkpoeiojmeaaDoorProg.lean LOADS. Nothing in Lean hashes anything: it is a label: what it is worth is what the hold of that sum in a sandbox is worth. -/
noncomputable def Tryd.pinned : Pinned := { name := "ytgkgkpoeiojmeaadoor", sum := "5715192cdefe5b75be402cc0a5652829a951000782000196a0100a757d288c2e", checked := Tryd.checked }
namespace Rows
def none {H : Type} : Left H := { results := [], args := [] }

/- WHAT THE LISTED PACKAGE-LEVEL VARIABLES READ AS WHEN THE CALL BEGINS. Each datum BY PROGRAM (the guide's laid-datum.mjs) off the statement by which the dump's own 'gosem.cut.vars' lays the variable. In a bare row this is a premise. The card (YtgkgkpoeiojmeaaDoorCards.lean) ties it to the program's text. -/
def laid_math_bits_deBruijn32tab {H : Type} : DataW H := .agg [.lit (.int .u8 0), .lit (.int .u8 1), .lit (.int .u8 28), .lit (.int .u8 2), .lit (.int .u8 29), .lit (.int .u8 14), .lit (.int .u8 24), .lit (.int .u8 3), .lit (.int .u8 30), .lit (.int .u8 22), .lit (.int .u8 20), .lit (.int .u8 15), .lit (.int .u8 25), .lit (.int .u8 17), .lit (.int .u8 4), .lit (.int .u8 8), .lit (.int .u8 31), .lit (.int .u8 27), .lit (.int .u8 13), .lit (.int .u8 23), .lit (.int .u8 21), .lit (.int .u8 19), .lit (.int .u8 16), .lit (.int .u8 7), .lit (.int .u8 26), .lit (.int .u8 12), .lit (.int .u8 18), .lit (.int .u8 6), .lit (.int .u8 11), .lit (.int .u8 5), .lit (.int .u8 10), .lit (.int .u8 9)]
def laid_math_bits_deBruijn64tab {H : Type} : DataW H := .agg [.lit (.int .u8 0), .lit (.int .u8 1), .lit (.int .u8 56), .lit (.int .u8 2), .lit (.int .u8 57), .lit (.int .u8 49), .lit (.int .u8 28), .lit (.int .u8 3), .lit (.int .u8 61), .lit (.int .u8 58), .lit (.int .u8 42), .lit (.int .u8 50), .lit (.int .u8 38), .lit (.int .u8 29), .lit (.int .u8 17), .lit (.int .u8 4), .lit (.int .u8 62), .lit (.int .u8 47), .lit (.int .u8 59), .lit (.int .u8 36), .lit (.int .u8 45), .lit (.int .u8 43), .lit (.int .u8 51), .lit (.int .u8 22), .lit (.int .u8 53), .lit (.int .u8 39), .lit (.int .u8 33), .lit (.int .u8 30), .lit (.int .u8 24), .lit (.int .u8 18), .lit (.int .u8 12), .lit (.int .u8 5), .lit (.int .u8 63), .lit (.int .u8 55), .lit (.int .u8 48), .lit (.int .u8 27), .lit (.int .u8 60), .lit (.int .u8 41), .lit (.int .u8 37), .lit (.int .u8 16), .lit (.int .u8 46), .lit (.int .u8 35), .lit (.int .u8 44), .lit (.int .u8 21), .lit (.int .u8 52), .lit (.int .u8 32), .lit (.int .u8 23), .lit (.int .u8 11), .lit (.int .u8 54), .lit (.int .u8 26), .lit (.int .u8 40), .lit (.int .u8 15), .lit (.int .u8 34), .lit (.int .u8 20), .lit (.int .u8 31), .lit (.int .u8 10), .lit (.int .u8 25), .lit (.int .u8 14), .lit (.int .u8 19), .lit (.int .u8 9), .lit (.int .u8 13), .lit (.int .u8 8), .lit (.int .u8 7), .lit (.int .u8 6)]
def laid_internal_strconv_uint64pow10 {H : Type} : DataW H := .agg [.lit (.int .u64 1), .lit (.int .u64 10), .lit (.int .u64 100), .lit (.int .u64 1000), .lit (.int .u64 10000), .lit (.int .u64 100000), .lit (.int .u64 1000000), .lit (.int .u64 10000000), .lit (.int .u64 100000000), .lit (.int .u64 1000000000), .lit (.int .u64 10000000000), .lit (.int .u64 100000000000), .lit (.int .u64 1000000000000), .lit (.int .u64 10000000000000), .lit (.int .u64 100000000000000), .lit (.int .u64 1000000000000000), .lit (.int .u64 10000000000000000), .lit (.int .u64 100000000000000000), .lit (.int .u64 1000000000000000000), .lit (.int .u64 10000000000000000000)]
def laid_unicode_utf8_acceptRanges {H : Type} : DataW H := .agg [.agg [.lit (.int .u8 128), .lit (.int .u8 191)], .agg [.lit (.int .u8 160), .lit (.int .u8 191)], .agg [.lit (.int .u8 128), .lit (.int .u8 159)], .agg [.lit (.int .u8 144), .lit (.int .u8 191)], .agg [.lit (.int .u8 128), .lit (.int .u8 143)], .agg [.lit (.int .u8 0), .lit (.int .u8 0)], .agg [.lit (.int .u8 0), .lit (.int .u8 0)], .agg [.lit (.int .u8 0), .lit (.int .u8 0)], .agg [.lit (.int .u8 0), .lit (.int .u8 0)], .agg [.lit (.int .u8 0), .lit (.int .u8 0)], .agg [.lit (.int .u8 0), .lit (.int .u8 0)], .agg [.lit (.int .u8 0), .lit (.int .u8 0)], .agg [.lit (.int .u8 0), .lit (.int .u8 0)], .agg [.lit (.int .u8 0), .lit (.int .u8 0)], .agg [.lit (.int .u8 0), .lit (.int .u8 0)], .agg [.lit (.int .u8 0), .lit (.int .u8 0)]]
/-- One of Go's own tables, pinned by name: the form's constant. -/
def laid_unicode_utf8_first : DataW Unit := Go.Pinned.utf8First
def laid_strconv_ErrRange {H : Type} : DataW H := .iface "*errors.errorString" (.ptr (.agg [.lit (.string [118, 97, 108, 117, 101, 32, 111, 117, 116, 32, 111, 102, 32, 114, 97, 110, 103, 101])]))
def laid_strconv_ErrSyntax {H : Type} : DataW H := .iface "*errors.errorString" (.ptr (.agg [.lit (.string [105, 110, 118, 97, 108, 105, 100, 32, 115, 121, 110, 116, 97, 120])]))

/-- 'laws.FnExactWirePut': WHATEVER THE INPUT: true; the input reads as it did. -/
def fnExactWirePutSpec : ChangeSpec := { name := "fnExactWirePut", fn := fun _ => fun
  | [d] => { results := [.lit (.bool true)], args := [d] }
  | _ => none }
def fnExactWirePutRow : OpenClaim := { program := "ytgkgkpoeiojmeaadoor", sum := "5715192cdefe5b75be402cc0a5652829a951000782000196a0100a757d288c2e", func := "loop.example/muniment/laws.FnExactWirePut", spec := "fnExactWirePut", recurses := true, named := ["internal/strconv.uint64pow10", "math/bits.deBruijn32tab", "math/bits.deBruijn64tab"], apart := false, laid := [("math/bits.deBruijn32tab", laid_math_bits_deBruijn32tab), ("math/bits.deBruijn64tab", laid_math_bits_deBruijn64tab), ("internal/strconv.uint64pow10", laid_internal_strconv_uint64pow10)] }
def FnExactWirePutSaid : Prop := fnExactWirePutRow.holds Tryd.pinned (OpenSpec.ofChange fnExactWirePutSpec)

/-- ITS FALSE NEIGHBOUR: 'it returns false'. Refute it at one input. -/
def fnExactWirePutWrong : ChangeSpec := { name := "fnExactWirePut", fn := fun _ => fun
  | [d] => { results := [.lit (.bool false)], args := [d] }
  | _ => none }
def FnExactWirePutWrongFalsely : Prop := fnExactWirePutRow.holds Tryd.pinned (OpenSpec.ofChange fnExactWirePutWrong)

/-- 'laws.FnExactNameOk': WHATEVER THE INPUT: true; the input reads as it did. -/
def fnExactNameOkSpec : ChangeSpec := { name := "fnExactNameOk", fn := fun _ => fun
  | [d] => { results := [.lit (.bool true)], args := [d] }
  | _ => none }
def fnExactNameOkRow : OpenClaim := { program := "ytgkgkpoeiojmeaadoor", sum := "5715192cdefe5b75be402cc0a5652829a951000782000196a0100a757d288c2e", func := "loop.example/muniment/laws.FnExactNameOk", spec := "fnExactNameOk", inPlace := ["internal/bytealg.IndexByteString", "internal/bytealg.IndexString"], named := ["unicode/utf8.first", "unicode/utf8.acceptRanges", "internal/bytealg.MaxLen"], apart := false, laid := [("unicode/utf8.acceptRanges", laid_unicode_utf8_acceptRanges), ("unicode/utf8.first", laid_unicode_utf8_first)] }
def FnExactNameOkSaid : Prop := fnExactNameOkRow.holds Tryd.pinned (OpenSpec.ofChange fnExactNameOkSpec)

/-- ITS FALSE NEIGHBOUR: 'it returns false'. Refute it at one input. -/
def fnExactNameOkWrong : ChangeSpec := { name := "fnExactNameOk", fn := fun _ => fun
  | [d] => { results := [.lit (.bool false)], args := [d] }
  | _ => none }
def FnExactNameOkWrongFalsely : Prop := fnExactNameOkRow.holds Tryd.pinned (OpenSpec.ofChange fnExactNameOkWrong)

/-- 'laws.FnExactThingKey': WHATEVER THE INPUT: true; the input reads as it did. -/
def fnExactThingKeySpec : ChangeSpec := { name := "fnExactThingKey", fn := fun _ => fun
  | [d1, d2] => { results := [.lit (.bool true)], args := [d1, d2] }
  | _ => none }
def fnExactThingKeyRow : OpenClaim := { program := "ytgkgkpoeiojmeaadoor", sum := "5715192cdefe5b75be402cc0a5652829a951000782000196a0100a757d288c2e", func := "loop.example/muniment/laws.FnExactThingKey", spec := "fnExactThingKey", inPlace := ["internal/bytealg.IndexByteString", "internal/bytealg.IndexString"], named := ["unicode/utf8.first", "unicode/utf8.acceptRanges", "internal/bytealg.MaxLen"], apart := false, laid := [("unicode/utf8.acceptRanges", laid_unicode_utf8_acceptRanges), ("unicode/utf8.first", laid_unicode_utf8_first)] }
def FnExactThingKeySaid : Prop := fnExactThingKeyRow.holds Tryd.pinned (OpenSpec.ofChange fnExactThingKeySpec)

/-- ITS FALSE NEIGHBOUR: 'it returns false'. Refute it at one input. -/
def fnExactThingKeyWrong : ChangeSpec := { name := "fnExactThingKey", fn := fun _ => fun
  | [d1, d2] => { results := [.lit (.bool false)], args := [d1, d2] }
  | _ => none }
def FnExactThingKeyWrongFalsely : Prop := fnExactThingKeyRow.holds Tryd.pinned (OpenSpec.ofChange fnExactThingKeyWrong)

/-- 'laws.FnNameOk': WHATEVER THE INPUT: true; the input reads as it did. -/
def fnNameOkSpec : ChangeSpec := { name := "fnNameOk", fn := fun _ => fun
  | [d] => { results := [.lit (.bool true)], args := [d] }
  | _ => none }
def fnNameOkRow : OpenClaim := { program := "ytgkgkpoeiojmeaadoor", sum := "5715192cdefe5b75be402cc0a5652829a951000782000196a0100a757d288c2e", func := "loop.example/muniment/laws.FnNameOk", spec := "fnNameOk", inPlace := ["internal/bytealg.IndexByteString", "internal/bytealg.IndexString"], named := ["unicode/utf8.first", "unicode/utf8.acceptRanges", "internal/bytealg.MaxLen"], apart := false, laid := [("unicode/utf8.acceptRanges", laid_unicode_utf8_acceptRanges), ("unicode/utf8.first", laid_unicode_utf8_first)] }
def FnNameOkSaid : Prop := fnNameOkRow.holds Tryd.pinned (OpenSpec.ofChange fnNameOkSpec)

/-- ITS FALSE NEIGHBOUR: 'it returns false'. Refute it at one input. -/
def fnNameOkWrong : ChangeSpec := { name := "fnNameOk", fn := fun _ => fun
  | [d] => { results := [.lit (.bool false)], args := [d] }
  | _ => none }
def FnNameOkWrongFalsely : Prop := fnNameOkRow.holds Tryd.pinned (OpenSpec.ofChange fnNameOkWrong)

/-- 'laws.FnThingKey': WHATEVER THE INPUT: true; the input reads as it did. -/
def fnThingKeySpec : ChangeSpec := { name := "fnThingKey", fn := fun _ => fun
  | [d1, d2] => { results := [.lit (.bool true)], args := [d1, d2] }
  | _ => none }
def fnThingKeyRow : OpenClaim := { program := "ytgkgkpoeiojmeaadoor", sum := "5715192cdefe5b75be402cc0a5652829a951000782000196a0100a757d288c2e", func := "loop.example/muniment/laws.FnThingKey", spec := "fnThingKey", inPlace := ["internal/bytealg.IndexByteString", "internal/bytealg.IndexString"], named := ["unicode/utf8.first", "unicode/utf8.acceptRanges", "internal/bytealg.MaxLen"], apart := false, laid := [("unicode/utf8.acceptRanges", laid_unicode_utf8_acceptRanges), ("unicode/utf8.first", laid_unicode_utf8_first)] }
def FnThingKeySaid : Prop := fnThingKeyRow.holds Tryd.pinned (OpenSpec.ofChange fnThingKeySpec)

/-- ITS FALSE NEIGHBOUR: 'it returns false'. Refute it at one input. -/
def fnThingKeyWrong : ChangeSpec := { name := "fnThingKey", fn := fun _ => fun
  | [d1, d2] => { results := [.lit (.bool false)], args := [d1, d2] }
  | _ => none }
def FnThingKeyWrongFalsely : Prop := fnThingKeyRow.holds Tryd.pinned (OpenSpec.ofChange fnThingKeyWrong)

/-- 'laws.FnExactReqOk': WHATEVER THE INPUT: true; the input reads as it did. -/
def fnExactReqOkSpec : ChangeSpec := { name := "fnExactReqOk", fn := fun _ => fun
  | [d] => { results := [.lit (.bool true)], args := [d] }
  | _ => none }
def fnExactReqOkRow : OpenClaim := { program := "ytgkgkpoeiojmeaadoor", sum := "5715192cdefe5b75be402cc0a5652829a951000782000196a0100a757d288c2e", func := "loop.example/muniment/laws.FnExactReqOk", spec := "fnExactReqOk", inPlace := ["internal/bytealg.IndexByteString", "internal/bytealg.IndexString"], named := ["unicode/utf8.first", "unicode/utf8.acceptRanges", "internal/bytealg.MaxLen"], apart := false, laid := [("unicode/utf8.acceptRanges", laid_unicode_utf8_acceptRanges), ("unicode/utf8.first", laid_unicode_utf8_first)] }
def FnExactReqOkSaid : Prop := fnExactReqOkRow.holds Tryd.pinned (OpenSpec.ofChange fnExactReqOkSpec)

/-- ITS FALSE NEIGHBOUR: 'it returns false'. Refute it at one input. -/
def fnExactReqOkWrong : ChangeSpec := { name := "fnExactReqOk", fn := fun _ => fun
  | [d] => { results := [.lit (.bool false)], args := [d] }
  | _ => none }
def FnExactReqOkWrongFalsely : Prop := fnExactReqOkRow.holds Tryd.pinned (OpenSpec.ofChange fnExactReqOkWrong)

/-- 'laws.FnExactThingOk': WHATEVER THE INPUT: true; the input reads as it did. -/
def fnExactThingOkSpec : ChangeSpec := { name := "fnExactThingOk", fn := fun _ => fun
  | [d] => { results := [.lit (.bool true)], args := [d] }
  | _ => none }
def fnExactThingOkRow : OpenClaim := { program := "ytgkgkpoeiojmeaadoor", sum := "5715192cdefe5b75be402cc0a5652829a951000782000196a0100a757d288c2e", func := "loop.example/muniment/laws.FnExactThingOk", spec := "fnExactThingOk", inPlace := ["internal/bytealg.IndexByteString", "internal/bytealg.IndexString"], named := ["unicode/utf8.first", "unicode/utf8.acceptRanges", "internal/bytealg.MaxLen"], apart := false, laid := [("unicode/utf8.acceptRanges", laid_unicode_utf8_acceptRanges), ("unicode/utf8.first", laid_unicode_utf8_first)] }
def FnExactThingOkSaid : Prop := fnExactThingOkRow.holds Tryd.pinned (OpenSpec.ofChange fnExactThingOkSpec)

/-- ITS FALSE NEIGHBOUR: 'it returns false'. Refute it at one input. -/
def fnExactThingOkWrong : ChangeSpec := { name := "fnExactThingOk", fn := fun _ => fun
  | [d] => { results := [.lit (.bool false)], args := [d] }
  | _ => none }
def FnExactThingOkWrongFalsely : Prop := fnExactThingOkRow.holds Tryd.pinned (OpenSpec.ofChange fnExactThingOkWrong)

/-- 'laws.FnThingCost': WHATEVER THE INPUT: true; the input reads as it did. -/
def fnThingCostSpec : ChangeSpec := { name := "fnThingCost", fn := fun _ => fun
  | [d] => { results := [.lit (.bool true)], args := [d] }
  | _ => none }
def fnThingCostRow : OpenClaim := { program := "ytgkgkpoeiojmeaadoor", sum := "5715192cdefe5b75be402cc0a5652829a951000782000196a0100a757d288c2e", func := "loop.example/muniment/laws.FnThingCost", spec := "fnThingCost", inPlace := ["internal/bytealg.IndexByteString", "internal/bytealg.IndexString"], named := ["unicode/utf8.first", "unicode/utf8.acceptRanges", "internal/bytealg.MaxLen"], apart := false, laid := [("unicode/utf8.acceptRanges", laid_unicode_utf8_acceptRanges), ("unicode/utf8.first", laid_unicode_utf8_first)] }
def FnThingCostSaid : Prop := fnThingCostRow.holds Tryd.pinned (OpenSpec.ofChange fnThingCostSpec)

/-- ITS FALSE NEIGHBOUR: 'it returns false'. Refute it at one input. -/
def fnThingCostWrong : ChangeSpec := { name := "fnThingCost", fn := fun _ => fun
  | [d] => { results := [.lit (.bool false)], args := [d] }
  | _ => none }
def FnThingCostWrongFalsely : Prop := fnThingCostRow.holds Tryd.pinned (OpenSpec.ofChange fnThingCostWrong)

/-- 'laws.FnExactThingCost': WHATEVER THE INPUT: true; the input reads as it did. -/
def fnExactThingCostSpec : ChangeSpec := { name := "fnExactThingCost", fn := fun _ => fun
  | [d] => { results := [.lit (.bool true)], args := [d] }
  | _ => none }
def fnExactThingCostRow : OpenClaim := { program := "ytgkgkpoeiojmeaadoor", sum := "5715192cdefe5b75be402cc0a5652829a951000782000196a0100a757d288c2e", func := "loop.example/muniment/laws.FnExactThingCost", spec := "fnExactThingCost", inPlace := ["internal/bytealg.IndexByteString", "internal/bytealg.IndexString"], named := ["unicode/utf8.first", "unicode/utf8.acceptRanges", "internal/bytealg.MaxLen"], apart := false, laid := [("unicode/utf8.acceptRanges", laid_unicode_utf8_acceptRanges), ("unicode/utf8.first", laid_unicode_utf8_first)] }
def FnExactThingCostSaid : Prop := fnExactThingCostRow.holds Tryd.pinned (OpenSpec.ofChange fnExactThingCostSpec)

/-- ITS FALSE NEIGHBOUR: 'it returns false'. Refute it at one input. -/
def fnExactThingCostWrong : ChangeSpec := { name := "fnExactThingCost", fn := fun _ => fun
  | [d] => { results := [.lit (.bool false)], args := [d] }
  | _ => none }
def FnExactThingCostWrongFalsely : Prop := fnExactThingCostRow.holds Tryd.pinned (OpenSpec.ofChange fnExactThingCostWrong)

/-- 'laws.FnExactReqWrite': WHATEVER THE INPUT: true; the input reads as it did. -/
def fnExactReqWriteSpec : ChangeSpec := { name := "fnExactReqWrite", fn := fun _ => fun
  | [d] => { results := [.lit (.bool true)], args := [d] }
  | _ => none }
def fnExactReqWriteRow : OpenClaim := { program := "ytgkgkpoeiojmeaadoor", sum := "5715192cdefe5b75be402cc0a5652829a951000782000196a0100a757d288c2e", func := "loop.example/muniment/laws.FnExactReqWrite", spec := "fnExactReqWrite", inPlace := ["internal/bytealg.IndexByteString", "internal/bytealg.IndexString"], recurses := true, named := ["unicode/utf8.first", "unicode/utf8.acceptRanges", "internal/strconv.uint64pow10", "math/bits.deBruijn32tab", "math/bits.deBruijn64tab", "internal/bytealg.MaxLen"], apart := false, laid := [("math/bits.deBruijn32tab", laid_math_bits_deBruijn32tab), ("math/bits.deBruijn64tab", laid_math_bits_deBruijn64tab), ("internal/strconv.uint64pow10", laid_internal_strconv_uint64pow10), ("unicode/utf8.acceptRanges", laid_unicode_utf8_acceptRanges), ("unicode/utf8.first", laid_unicode_utf8_first)] }
def FnExactReqWriteSaid : Prop := fnExactReqWriteRow.holds Tryd.pinned (OpenSpec.ofChange fnExactReqWriteSpec)

/-- ITS FALSE NEIGHBOUR: 'it returns false'. Refute it at one input. -/
def fnExactReqWriteWrong : ChangeSpec := { name := "fnExactReqWrite", fn := fun _ => fun
  | [d] => { results := [.lit (.bool false)], args := [d] }
  | _ => none }
def FnExactReqWriteWrongFalsely : Prop := fnExactReqWriteRow.holds Tryd.pinned (OpenSpec.ofChange fnExactReqWriteWrong)

/-- 'laws.FnExactWireGet': WHATEVER THE INPUT: true; the input reads as it did. -/
def fnExactWireGetSpec : ChangeSpec := { name := "fnExactWireGet", fn := fun _ => fun
  | [d] => { results := [.lit (.bool true)], args := [d] }
  | _ => none }
def fnExactWireGetRow : OpenClaim := { program := "ytgkgkpoeiojmeaadoor", sum := "5715192cdefe5b75be402cc0a5652829a951000782000196a0100a757d288c2e", func := "loop.example/muniment/laws.FnExactWireGet", spec := "fnExactWireGet", inPlace := ["internal/bytealg.IndexByteString", "internal/bytealg.IndexString"], named := ["internal/bytealg.MaxLen", "unicode/utf8.first", "unicode/utf8.acceptRanges", "strconv.ErrSyntax", "strconv.ErrRange", "internal/strconv.uint64pow10", "math/bits.deBruijn32tab", "math/bits.deBruijn64tab"], apart := false, laid := [("math/bits.deBruijn32tab", laid_math_bits_deBruijn32tab), ("math/bits.deBruijn64tab", laid_math_bits_deBruijn64tab), ("internal/strconv.uint64pow10", laid_internal_strconv_uint64pow10), ("unicode/utf8.acceptRanges", laid_unicode_utf8_acceptRanges), ("strconv.ErrRange", laid_strconv_ErrRange), ("strconv.ErrSyntax", laid_strconv_ErrSyntax), ("unicode/utf8.first", laid_unicode_utf8_first)] }
def FnExactWireGetSaid : Prop := fnExactWireGetRow.holds Tryd.pinned (OpenSpec.ofChange fnExactWireGetSpec)

/-- ITS FALSE NEIGHBOUR: 'it returns false'. Refute it at one input. -/
def fnExactWireGetWrong : ChangeSpec := { name := "fnExactWireGet", fn := fun _ => fun
  | [d] => { results := [.lit (.bool false)], args := [d] }
  | _ => none }
def FnExactWireGetWrongFalsely : Prop := fnExactWireGetRow.holds Tryd.pinned (OpenSpec.ofChange fnExactWireGetWrong)

/- THE SECOND FORM. 'bulk': how many values and letters a reading holds, each counted each time it is reached (what is shared counts as often as it is met; a slice's spare places count too). A statement '..UptoSaid' is the law's where the arguments, and the package variables that the reading takes, are together of bulk at most 1048576: NARROWER than '..Said'. Prove '..Said' where nothing that the law and all that it calls make is longer than what came in: it says more and counts as full. Else prove '..UptoSaid'. A law counts once. -/
mutual
def uptoBulk {H : Type} : DataW H → Nat
  | .lit (.string bytes) => bytes.length + 1
  | .lit _ => 1
  | .nil => 1
  | .ptr d => uptoBulk d + 1
  | .slice elems spare => uptoBulkAll elems + uptoBulkAll spare + 1
  | .agg parts => uptoBulkAll parts + 1
  | .iface _ d => uptoBulk d + 1
  | .map entries => uptoBulkEntries entries + 1
  | .held _ => 1
def uptoBulkAll {H : Type} : List (DataW H) → Nat
  | [] => 0
  | d :: r => uptoBulk d + uptoBulkAll r
def uptoBulkEntries {H : Type} : List (Lit × DataW H) → Nat
  | [] => 0
  | x :: r => uptoBulkEntry x + uptoBulkEntries r
def uptoBulkEntry {H : Type} : Lit × DataW H → Nat
  | (.string bytes, d) => bytes.length + uptoBulk d + 1
  | (_, d) => uptoBulk d + 1
 end
def uptoSmall : (H : Type) → List (DataW H) → Bool := fun _ ds => decide (uptoBulkAll ds ≤ 1048576)
def OpenSpec.upto (s : _root_.Go.ChangeSpec) : _root_.Go.OpenSpec := { _root_.Go.OpenSpec.ofChange s with cond := some uptoSmall }

/-- 'laws.FnExactWirePut', WHERE WHAT IT READS IS OF BULK AT MOST 1048576: true; the input reads as it did. -/
def fnExactWirePutUptoRow : OpenClaim := { program := "ytgkgkpoeiojmeaadoor", sum := "5715192cdefe5b75be402cc0a5652829a951000782000196a0100a757d288c2e", func := "loop.example/muniment/laws.FnExactWirePut", spec := "fnExactWirePut", recurses := true, named := ["internal/strconv.uint64pow10", "math/bits.deBruijn32tab", "math/bits.deBruijn64tab"], apart := false, laid := [("math/bits.deBruijn32tab", laid_math_bits_deBruijn32tab), ("math/bits.deBruijn64tab", laid_math_bits_deBruijn64tab), ("internal/strconv.uint64pow10", laid_internal_strconv_uint64pow10)], narrowed := true }
def FnExactWirePutUptoSaid : Prop := fnExactWirePutUptoRow.holds Tryd.pinned (OpenSpec.upto fnExactWirePutSpec)

/-- 'laws.FnExactNameOk', WHERE WHAT IT READS IS OF BULK AT MOST 1048576: true; the input reads as it did. -/
def fnExactNameOkUptoRow : OpenClaim := { program := "ytgkgkpoeiojmeaadoor", sum := "5715192cdefe5b75be402cc0a5652829a951000782000196a0100a757d288c2e", func := "loop.example/muniment/laws.FnExactNameOk", spec := "fnExactNameOk", inPlace := ["internal/bytealg.IndexByteString", "internal/bytealg.IndexString"], named := ["unicode/utf8.first", "unicode/utf8.acceptRanges", "internal/bytealg.MaxLen"], apart := false, laid := [("unicode/utf8.acceptRanges", laid_unicode_utf8_acceptRanges), ("unicode/utf8.first", laid_unicode_utf8_first)], narrowed := true }
def FnExactNameOkUptoSaid : Prop := fnExactNameOkUptoRow.holds Tryd.pinned (OpenSpec.upto fnExactNameOkSpec)

/-- 'laws.FnExactThingKey', WHERE WHAT IT READS IS OF BULK AT MOST 1048576: true; the input reads as it did. -/
def fnExactThingKeyUptoRow : OpenClaim := { program := "ytgkgkpoeiojmeaadoor", sum := "5715192cdefe5b75be402cc0a5652829a951000782000196a0100a757d288c2e", func := "loop.example/muniment/laws.FnExactThingKey", spec := "fnExactThingKey", inPlace := ["internal/bytealg.IndexByteString", "internal/bytealg.IndexString"], named := ["unicode/utf8.first", "unicode/utf8.acceptRanges", "internal/bytealg.MaxLen"], apart := false, laid := [("unicode/utf8.acceptRanges", laid_unicode_utf8_acceptRanges), ("unicode/utf8.first", laid_unicode_utf8_first)], narrowed := true }
def FnExactThingKeyUptoSaid : Prop := fnExactThingKeyUptoRow.holds Tryd.pinned (OpenSpec.upto fnExactThingKeySpec)

/-- 'laws.FnNameOk', WHERE WHAT IT READS IS OF BULK AT MOST 1048576: true; the input reads as it did. -/
def fnNameOkUptoRow : OpenClaim := { program := "ytgkgkpoeiojmeaadoor", sum := "5715192cdefe5b75be402cc0a5652829a951000782000196a0100a757d288c2e", func := "loop.example/muniment/laws.FnNameOk", spec := "fnNameOk", inPlace := ["internal/bytealg.IndexByteString", "internal/bytealg.IndexString"], named := ["unicode/utf8.first", "unicode/utf8.acceptRanges", "internal/bytealg.MaxLen"], apart := false, laid := [("unicode/utf8.acceptRanges", laid_unicode_utf8_acceptRanges), ("unicode/utf8.first", laid_unicode_utf8_first)], narrowed := true }
def FnNameOkUptoSaid : Prop := fnNameOkUptoRow.holds Tryd.pinned (OpenSpec.upto fnNameOkSpec)

/-- 'laws.FnThingKey', WHERE WHAT IT READS IS OF BULK AT MOST 1048576: true; the input reads as it did. -/
def fnThingKeyUptoRow : OpenClaim := { program := "ytgkgkpoeiojmeaadoor", sum := "5715192cdefe5b75be402cc0a5652829a951000782000196a0100a757d288c2e", func := "loop.example/muniment/laws.FnThingKey", spec := "fnThingKey", inPlace := ["internal/bytealg.IndexByteString", "internal/bytealg.IndexString"], named := ["unicode/utf8.first", "unicode/utf8.acceptRanges", "internal/bytealg.MaxLen"], apart := false, laid := [("unicode/utf8.acceptRanges", laid_unicode_utf8_acceptRanges), ("unicode/utf8.first", laid_unicode_utf8_first)], narrowed := true }
def FnThingKeyUptoSaid : Prop := fnThingKeyUptoRow.holds Tryd.pinned (OpenSpec.upto fnThingKeySpec)

/-- 'laws.FnExactReqOk', WHERE WHAT IT READS IS OF BULK AT MOST 1048576: true; the input reads as it did. -/
def fnExactReqOkUptoRow : OpenClaim := { program := "ytgkgkpoeiojmeaadoor", sum := "5715192cdefe5b75be402cc0a5652829a951000782000196a0100a757d288c2e", func := "loop.example/muniment/laws.FnExactReqOk", spec := "fnExactReqOk", inPlace := ["internal/bytealg.IndexByteString", "internal/bytealg.IndexString"], named := ["unicode/utf8.first", "unicode/utf8.acceptRanges", "internal/bytealg.MaxLen"], apart := false, laid := [("unicode/utf8.acceptRanges", laid_unicode_utf8_acceptRanges), ("unicode/utf8.first", laid_unicode_utf8_first)], narrowed := true }
def FnExactReqOkUptoSaid : Prop := fnExactReqOkUptoRow.holds Tryd.pinned (OpenSpec.upto fnExactReqOkSpec)

/-- 'laws.FnExactThingOk', WHERE WHAT IT READS IS OF BULK AT MOST 1048576: true; the input reads as it did. -/
def fnExactThingOkUptoRow : OpenClaim := { program := "ytgkgkpoeiojmeaadoor", sum := "5715192cdefe5b75be402cc0a5652829a951000782000196a0100a757d288c2e", func := "loop.example/muniment/laws.FnExactThingOk", spec := "fnExactThingOk", inPlace := ["internal/bytealg.IndexByteString", "internal/bytealg.IndexString"], named := ["unicode/utf8.first", "unicode/utf8.acceptRanges", "internal/bytealg.MaxLen"], apart := false, laid := [("unicode/utf8.acceptRanges", laid_unicode_utf8_acceptRanges), ("unicode/utf8.first", laid_unicode_utf8_first)], narrowed := true }
def FnExactThingOkUptoSaid : Prop := fnExactThingOkUptoRow.holds Tryd.pinned (OpenSpec.upto fnExactThingOkSpec)

/-- 'laws.FnThingCost', WHERE WHAT IT READS IS OF BULK AT MOST 1048576: true; the input reads as it did. -/
def fnThingCostUptoRow : OpenClaim := { program := "ytgkgkpoeiojmeaadoor", sum := "5715192cdefe5b75be402cc0a5652829a951000782000196a0100a757d288c2e", func := "loop.example/muniment/laws.FnThingCost", spec := "fnThingCost", inPlace := ["internal/bytealg.IndexByteString", "internal/bytealg.IndexString"], named := ["unicode/utf8.first", "unicode/utf8.acceptRanges", "internal/bytealg.MaxLen"], apart := false, laid := [("unicode/utf8.acceptRanges", laid_unicode_utf8_acceptRanges), ("unicode/utf8.first", laid_unicode_utf8_first)], narrowed := true }
def FnThingCostUptoSaid : Prop := fnThingCostUptoRow.holds Tryd.pinned (OpenSpec.upto fnThingCostSpec)

/-- 'laws.FnExactThingCost', WHERE WHAT IT READS IS OF BULK AT MOST 1048576: true; the input reads as it did. -/
def fnExactThingCostUptoRow : OpenClaim := { program := "ytgkgkpoeiojmeaadoor", sum := "5715192cdefe5b75be402cc0a5652829a951000782000196a0100a757d288c2e", func := "loop.example/muniment/laws.FnExactThingCost", spec := "fnExactThingCost", inPlace := ["internal/bytealg.IndexByteString", "internal/bytealg.IndexString"], named := ["unicode/utf8.first", "unicode/utf8.acceptRanges", "internal/bytealg.MaxLen"], apart := false, laid := [("unicode/utf8.acceptRanges", laid_unicode_utf8_acceptRanges), ("unicode/utf8.first", laid_unicode_utf8_first)], narrowed := true }
def FnExactThingCostUptoSaid : Prop := fnExactThingCostUptoRow.holds Tryd.pinned (OpenSpec.upto fnExactThingCostSpec)

/-- 'laws.FnExactReqWrite', WHERE WHAT IT READS IS OF BULK AT MOST 1048576: true; the input reads as it did. -/
def fnExactReqWriteUptoRow : OpenClaim := { program := "ytgkgkpoeiojmeaadoor", sum := "5715192cdefe5b75be402cc0a5652829a951000782000196a0100a757d288c2e", func := "loop.example/muniment/laws.FnExactReqWrite", spec := "fnExactReqWrite", inPlace := ["internal/bytealg.IndexByteString", "internal/bytealg.IndexString"], recurses := true, named := ["unicode/utf8.first", "unicode/utf8.acceptRanges", "internal/strconv.uint64pow10", "math/bits.deBruijn32tab", "math/bits.deBruijn64tab", "internal/bytealg.MaxLen"], apart := false, laid := [("math/bits.deBruijn32tab", laid_math_bits_deBruijn32tab), ("math/bits.deBruijn64tab", laid_math_bits_deBruijn64tab), ("internal/strconv.uint64pow10", laid_internal_strconv_uint64pow10), ("unicode/utf8.acceptRanges", laid_unicode_utf8_acceptRanges), ("unicode/utf8.first", laid_unicode_utf8_first)], narrowed := true }
def FnExactReqWriteUptoSaid : Prop := fnExactReqWriteUptoRow.holds Tryd.pinned (OpenSpec.upto fnExactReqWriteSpec)

/-- 'laws.FnExactWireGet', WHERE WHAT IT READS IS OF BULK AT MOST 1048576: true; the input reads as it did. -/
def fnExactWireGetUptoRow : OpenClaim := { program := "ytgkgkpoeiojmeaadoor", sum := "5715192cdefe5b75be402cc0a5652829a951000782000196a0100a757d288c2e", func := "loop.example/muniment/laws.FnExactWireGet", spec := "fnExactWireGet", inPlace := ["internal/bytealg.IndexByteString", "internal/bytealg.IndexString"], named := ["internal/bytealg.MaxLen", "unicode/utf8.first", "unicode/utf8.acceptRanges", "strconv.ErrSyntax", "strconv.ErrRange", "internal/strconv.uint64pow10", "math/bits.deBruijn32tab", "math/bits.deBruijn64tab"], apart := false, laid := [("math/bits.deBruijn32tab", laid_math_bits_deBruijn32tab), ("math/bits.deBruijn64tab", laid_math_bits_deBruijn64tab), ("internal/strconv.uint64pow10", laid_internal_strconv_uint64pow10), ("unicode/utf8.acceptRanges", laid_unicode_utf8_acceptRanges), ("strconv.ErrRange", laid_strconv_ErrRange), ("strconv.ErrSyntax", laid_strconv_ErrSyntax), ("unicode/utf8.first", laid_unicode_utf8_first)], narrowed := true }
def FnExactWireGetUptoSaid : Prop := fnExactWireGetUptoRow.holds Tryd.pinned (OpenSpec.upto fnExactWireGetSpec)

end Rows
end Go.Proofs.YtgkgkpoeiojmeaaDoor
