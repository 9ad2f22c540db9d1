/-
  NARROWER THAN 'FOR EVERY INPUT', by the rows' own cells (each row's printed sentence says how): TopEdited: laid · GreentreeRoundTrip: laid · GreentreeIdentity: laid · GreentreeShares: laid · ReparseEqualsParse: laid · ReparseReuses: laid · ReparseErrors: laid · ParserLossless: laid.
  DERIVED. THE GIVEN ROWS OF THIS SEAT. 8 by the template 'for every input the law returns true; each argument reads behind the call as it read before'; 0 by the template 'total and deterministic' (their statements: YtkikcleofaeigaaGreatDoorTotals.lean).
  GIVEN WITH THE SEED: the statements are not yours to turn. If you find one false, say at which input.
  Laid BY PROGRAM, IN A SANDBOX (cutbox-rows.mjs): the forced cells as the released guide's own fill.sh prints them over the translation 4bb716391dead978… (all of the seat's roots in one cut). By AI agents, Wed Nov 11 2026. No macro, syntax, notation, axiom, sorry.
-/
import Derived.Test.YtkikcleofaeigaaGreatDoorChecked
import GoSem.Claim
import GoSem.ClaimJoined
import GoSem.ClaimMapViews
import Derived.JoinedTies
import Derived.KernelRfl
namespace Go.Proofs.YtkikcleofaeigaaGreatDoor
/- THE CELL 'sum', in the pinned program and in every row, IS THE sha256 OF THE DUMP (.gsa) THAT YtkikcleofaeigaaGreatDoorProg.lean LOADS. Nothing in Lean hashes anything: it is a label: what it is worth is what the hold of that sum in a sandbox is worth. -/
noncomputable def Tryz.pinned : Pinned := { name := "ytkikcleofaeigaagreatdoor", sum := "4bb716391dead978def3e3368e0b2440ba1498a21fc2b31e2833249080a07266", checked := Tryz.checked }
namespace Rows
def none {H : Type} : Left H := { results := [], args := [] }

/- WHAT THE LISTED PACKAGE-LEVEL VARIABLES READ AS WHEN THE CALL BEGINS. Each datum BY PROGRAM (the guide's laid-datum.mjs) off the statement by which the dump's own 'gosem.cut.vars' lays the variable. In a bare row this is a premise. The card (YtkikcleofaeigaaGreatDoorCards.lean) ties it to the program's text. -/
def laid_unicode_White_Space {H : Type} : DataW H := .ptr (.agg [.slice [.agg [.lit (.int .u16 9), .lit (.int .u16 13), .lit (.int .u16 1)], .agg [.lit (.int .u16 32), .lit (.int .u16 133), .lit (.int .u16 101)], .agg [.lit (.int .u16 160), .lit (.int .u16 5760), .lit (.int .u16 5600)], .agg [.lit (.int .u16 8192), .lit (.int .u16 8202), .lit (.int .u16 1)], .agg [.lit (.int .u16 8232), .lit (.int .u16 8233), .lit (.int .u16 1)], .agg [.lit (.int .u16 8239), .lit (.int .u16 8287), .lit (.int .u16 48)], .agg [.lit (.int .u16 12288), .lit (.int .u16 12288), .lit (.int .u16 1)]] [], .nil, .lit (.int .i64 2)])
def laid_strings_asciiSpace {H : Type} : DataW H := .agg [.lit (.int .u8 0), .lit (.int .u8 0), .lit (.int .u8 0), .lit (.int .u8 0), .lit (.int .u8 0), .lit (.int .u8 0), .lit (.int .u8 0), .lit (.int .u8 0), .lit (.int .u8 0), .lit (.int .u8 1), .lit (.int .u8 1), .lit (.int .u8 1), .lit (.int .u8 1), .lit (.int .u8 1), .lit (.int .u8 0), .lit (.int .u8 0), .lit (.int .u8 0), .lit (.int .u8 0), .lit (.int .u8 0), .lit (.int .u8 0), .lit (.int .u8 0), .lit (.int .u8 0), .lit (.int .u8 0), .lit (.int .u8 0), .lit (.int .u8 0), .lit (.int .u8 0), .lit (.int .u8 0), .lit (.int .u8 0), .lit (.int .u8 0), .lit (.int .u8 0), .lit (.int .u8 0), .lit (.int .u8 0), .lit (.int .u8 1), .lit (.int .u8 0), .lit (.int .u8 0), .lit (.int .u8 0), .lit (.int .u8 0), .lit (.int .u8 0), .lit (.int .u8 0), .lit (.int .u8 0), .lit (.int .u8 0), .lit (.int .u8 0), .lit (.int .u8 0), .lit (.int .u8 0), .lit (.int .u8 0), .lit (.int .u8 0), .lit (.int .u8 0), .lit (.int .u8 0), .lit (.int .u8 0), .lit (.int .u8 0), .lit (.int .u8 0), .lit (.int .u8 0), .lit (.int .u8 0), .lit (.int .u8 0), .lit (.int .u8 0), .lit (.int .u8 0), .lit (.int .u8 0), .lit (.int .u8 0), .lit (.int .u8 0), .lit (.int .u8 0), .lit (.int .u8 0), .lit (.int .u8 0), .lit (.int .u8 0), .lit (.int .u8 0), .lit (.int .u8 0), .lit (.int .u8 0), .lit (.int .u8 0), .lit (.int .u8 0), .lit (.int .u8 0), .lit (.int .u8 0), .lit (.int .u8 0), .lit (.int .u8 0), .lit (.int .u8 0), .lit (.int .u8 0), .lit (.int .u8 0), .lit (.int .u8 0), .lit (.int .u8 0), .lit (.int .u8 0), .lit (.int .u8 0), .lit (.int .u8 0), .lit (.int .u8 0), .lit (.int .u8 0), .lit (.int .u8 0), .lit (.int .u8 0), .lit (.int .u8 0), .lit (.int .u8 0), .lit (.int .u8 0), .lit (.int .u8 0), .lit (.int .u8 0), .lit (.int .u8 0), .lit (.int .u8 0), .lit (.int .u8 0), .lit (.int .u8 0), .lit (.int .u8 0), .lit (.int .u8 0), .lit (.int .u8 0), .lit (.int .u8 0), .lit (.int .u8 0), .lit (.int .u8 0), .lit (.int .u8 0), .lit (.int .u8 0), .lit (.int .u8 0), .lit (.int .u8 0), .lit (.int .u8 0), .lit (.int .u8 0), .lit (.int .u8 0), .lit (.int .u8 0), .lit (.int .u8 0), .lit (.int .u8 0), .lit (.int .u8 0), .lit (.int .u8 0), .lit (.int .u8 0), .lit (.int .u8 0), .lit (.int .u8 0), .lit (.int .u8 0), .lit (.int .u8 0), .lit (.int .u8 0), .lit (.int .u8 0), .lit (.int .u8 0), .lit (.int .u8 0), .lit (.int .u8 0), .lit (.int .u8 0), .lit (.int .u8 0), .lit (.int .u8 0), .lit (.int .u8 0), .lit (.int .u8 0), .lit (.int .u8 0), .lit (.int .u8 0), .lit (.int .u8 0), .lit (.int .u8 0), .lit (.int .u8 0), .lit (.int .u8 0), .lit (.int .u8 0), .lit (.int .u8 0), .lit (.int .u8 0), .lit (.int .u8 0), .lit (.int .u8 0), .lit (.int .u8 0), .lit (.int .u8 0), .lit (.int .u8 0), .lit (.int .u8 0), .lit (.int .u8 0), .lit (.int .u8 0), .lit (.int .u8 0), .lit (.int .u8 0), .lit (.int .u8 0), .lit (.int .u8 0), .lit (.int .u8 0), .lit (.int .u8 0), .lit (.int .u8 0), .lit (.int .u8 0), .lit (.int .u8 0), .lit (.int .u8 0), .lit (.int .u8 0), .lit (.int .u8 0), .lit (.int .u8 0), .lit (.int .u8 0), .lit (.int .u8 0), .lit (.int .u8 0), .lit (.int .u8 0), .lit (.int .u8 0), .lit (.int .u8 0), .lit (.int .u8 0), .lit (.int .u8 0), .lit (.int .u8 0), .lit (.int .u8 0), .lit (.int .u8 0), .lit (.int .u8 0), .lit (.int .u8 0), .lit (.int .u8 0), .lit (.int .u8 0), .lit (.int .u8 0), .lit (.int .u8 0), .lit (.int .u8 0), .lit (.int .u8 0), .lit (.int .u8 0), .lit (.int .u8 0), .lit (.int .u8 0), .lit (.int .u8 0), .lit (.int .u8 0), .lit (.int .u8 0), .lit (.int .u8 0), .lit (.int .u8 0), .lit (.int .u8 0), .lit (.int .u8 0), .lit (.int .u8 0), .lit (.int .u8 0), .lit (.int .u8 0), .lit (.int .u8 0), .lit (.int .u8 0), .lit (.int .u8 0), .lit (.int .u8 0), .lit (.int .u8 0), .lit (.int .u8 0), .lit (.int .u8 0), .lit (.int .u8 0), .lit (.int .u8 0), .lit (.int .u8 0), .lit (.int .u8 0), .lit (.int .u8 0), .lit (.int .u8 0), .lit (.int .u8 0), .lit (.int .u8 0), .lit (.int .u8 0), .lit (.int .u8 0), .lit (.int .u8 0), .lit (.int .u8 0), .lit (.int .u8 0), .lit (.int .u8 0), .lit (.int .u8 0), .lit (.int .u8 0), .lit (.int .u8 0), .lit (.int .u8 0), .lit (.int .u8 0), .lit (.int .u8 0), .lit (.int .u8 0), .lit (.int .u8 0), .lit (.int .u8 0), .lit (.int .u8 0), .lit (.int .u8 0), .lit (.int .u8 0), .lit (.int .u8 0), .lit (.int .u8 0), .lit (.int .u8 0), .lit (.int .u8 0), .lit (.int .u8 0), .lit (.int .u8 0), .lit (.int .u8 0), .lit (.int .u8 0), .lit (.int .u8 0), .lit (.int .u8 0), .lit (.int .u8 0), .lit (.int .u8 0), .lit (.int .u8 0), .lit (.int .u8 0), .lit (.int .u8 0), .lit (.int .u8 0), .lit (.int .u8 0), .lit (.int .u8 0), .lit (.int .u8 0), .lit (.int .u8 0), .lit (.int .u8 0), .lit (.int .u8 0), .lit (.int .u8 0), .lit (.int .u8 0), .lit (.int .u8 0), .lit (.int .u8 0), .lit (.int .u8 0), .lit (.int .u8 0), .lit (.int .u8 0), .lit (.int .u8 0), .lit (.int .u8 0), .lit (.int .u8 0), .lit (.int .u8 0), .lit (.int .u8 0), .lit (.int .u8 0)]
def laid_math_bits_deBruijn32tab {H : Type} : DataW H := .agg [.lit (.int .u8 0), .lit (.int .u8 1), .lit (.int .u8 28), .lit (.int .u8 2), .lit (.int .u8 29), .lit (.int .u8 14), .lit (.int .u8 24), .lit (.int .u8 3), .lit (.int .u8 30), .lit (.int .u8 22), .lit (.int .u8 20), .lit (.int .u8 15), .lit (.int .u8 25), .lit (.int .u8 17), .lit (.int .u8 4), .lit (.int .u8 8), .lit (.int .u8 31), .lit (.int .u8 27), .lit (.int .u8 13), .lit (.int .u8 23), .lit (.int .u8 21), .lit (.int .u8 19), .lit (.int .u8 16), .lit (.int .u8 7), .lit (.int .u8 26), .lit (.int .u8 12), .lit (.int .u8 18), .lit (.int .u8 6), .lit (.int .u8 11), .lit (.int .u8 5), .lit (.int .u8 10), .lit (.int .u8 9)]
def laid_math_bits_deBruijn64tab {H : Type} : DataW H := .agg [.lit (.int .u8 0), .lit (.int .u8 1), .lit (.int .u8 56), .lit (.int .u8 2), .lit (.int .u8 57), .lit (.int .u8 49), .lit (.int .u8 28), .lit (.int .u8 3), .lit (.int .u8 61), .lit (.int .u8 58), .lit (.int .u8 42), .lit (.int .u8 50), .lit (.int .u8 38), .lit (.int .u8 29), .lit (.int .u8 17), .lit (.int .u8 4), .lit (.int .u8 62), .lit (.int .u8 47), .lit (.int .u8 59), .lit (.int .u8 36), .lit (.int .u8 45), .lit (.int .u8 43), .lit (.int .u8 51), .lit (.int .u8 22), .lit (.int .u8 53), .lit (.int .u8 39), .lit (.int .u8 33), .lit (.int .u8 30), .lit (.int .u8 24), .lit (.int .u8 18), .lit (.int .u8 12), .lit (.int .u8 5), .lit (.int .u8 63), .lit (.int .u8 55), .lit (.int .u8 48), .lit (.int .u8 27), .lit (.int .u8 60), .lit (.int .u8 41), .lit (.int .u8 37), .lit (.int .u8 16), .lit (.int .u8 46), .lit (.int .u8 35), .lit (.int .u8 44), .lit (.int .u8 21), .lit (.int .u8 52), .lit (.int .u8 32), .lit (.int .u8 23), .lit (.int .u8 11), .lit (.int .u8 54), .lit (.int .u8 26), .lit (.int .u8 40), .lit (.int .u8 15), .lit (.int .u8 34), .lit (.int .u8 20), .lit (.int .u8 31), .lit (.int .u8 10), .lit (.int .u8 25), .lit (.int .u8 14), .lit (.int .u8 19), .lit (.int .u8 9), .lit (.int .u8 13), .lit (.int .u8 8), .lit (.int .u8 7), .lit (.int .u8 6)]
def laid_internal_strconv_uint64pow10 {H : Type} : DataW H := .agg [.lit (.int .u64 1), .lit (.int .u64 10), .lit (.int .u64 100), .lit (.int .u64 1000), .lit (.int .u64 10000), .lit (.int .u64 100000), .lit (.int .u64 1000000), .lit (.int .u64 10000000), .lit (.int .u64 100000000), .lit (.int .u64 1000000000), .lit (.int .u64 10000000000), .lit (.int .u64 100000000000), .lit (.int .u64 1000000000000), .lit (.int .u64 10000000000000), .lit (.int .u64 100000000000000), .lit (.int .u64 1000000000000000), .lit (.int .u64 10000000000000000), .lit (.int .u64 100000000000000000), .lit (.int .u64 1000000000000000000), .lit (.int .u64 10000000000000000000)]
def laid_strconv_ErrRange {H : Type} : DataW H := .iface "*errors.errorString" (.ptr (.agg [.lit (.string [118, 97, 108, 117, 101, 32, 111, 117, 116, 32, 111, 102, 32, 114, 97, 110, 103, 101])]))
def laid_strconv_ErrSyntax {H : Type} : DataW H := .iface "*errors.errorString" (.ptr (.agg [.lit (.string [105, 110, 118, 97, 108, 105, 100, 32, 115, 121, 110, 116, 97, 120])]))

/-- 'glossatortop.TopEdited': WHATEVER THE INPUT: true; the input reads as it did. -/
def topEditedSpec : ChangeSpec := { name := "topEdited", fn := fun _ => fun
  | [d1, d2, d3] => { results := [.lit (.bool true)], args := [d1, d2, d3] }
  | _ => none }
def topEditedRow : OpenClaim := { program := "ytkikcleofaeigaagreatdoor", sum := "4bb716391dead978def3e3368e0b2440ba1498a21fc2b31e2833249080a07266", func := "glossator/glossatortop.TopEdited", spec := "topEdited", inPlace := ["internal/abi.NoEscape", "internal/bytealg.IndexByteString", "internal/bytealg.abigen_runtime_cmpstring", "slices.overlaps[glossator/api.Module]", "slices.overlaps[int]"], unfollowed := true, recurses := true, named := ["strings.asciiSpace", "unicode.White_Space"], plainKeys := false, apart := false, laid := [("unicode.White_Space", laid_unicode_White_Space), ("strings.asciiSpace", laid_strings_asciiSpace)] }
def TopEditedSaid : Prop := topEditedRow.holds Tryz.pinned (OpenSpec.ofChange topEditedSpec)

/-- ITS FALSE NEIGHBOUR: 'it returns false'. Refute it at one input. -/
def topEditedWrong : ChangeSpec := { name := "topEdited", fn := fun _ => fun
  | [d1, d2, d3] => { results := [.lit (.bool false)], args := [d1, d2, d3] }
  | _ => none }
def TopEditedWrongFalsely : Prop := topEditedRow.holds Tryz.pinned (OpenSpec.ofChange topEditedWrong)

/-- 'glossatorkeep1.GreentreeRoundTrip': WHATEVER THE INPUT: true; the input reads as it did. -/
def greentreeRoundTripSpec : ChangeSpec := { name := "greentreeRoundTrip", fn := fun _ => fun
  | [d] => { results := [.lit (.bool true)], args := [d] }
  | _ => none }
def greentreeRoundTripRow : OpenClaim := { program := "ytkikcleofaeigaagreatdoor", sum := "4bb716391dead978def3e3368e0b2440ba1498a21fc2b31e2833249080a07266", func := "glossator/glossatorkeep1.GreentreeRoundTrip", spec := "greentreeRoundTrip", inPlace := ["internal/bytealg.IndexByteString", "slices.overlaps[glossator/api.SyntaxTree]"], unfollowed := true, recurses := true, named := ["strings.asciiSpace", "unicode.White_Space"], plainKeys := false, apart := false, laid := [("unicode.White_Space", laid_unicode_White_Space), ("strings.asciiSpace", laid_strings_asciiSpace)] }
def GreentreeRoundTripSaid : Prop := greentreeRoundTripRow.holds Tryz.pinned (OpenSpec.ofChange greentreeRoundTripSpec)

/-- ITS FALSE NEIGHBOUR: 'it returns false'. Refute it at one input. -/
def greentreeRoundTripWrong : ChangeSpec := { name := "greentreeRoundTrip", fn := fun _ => fun
  | [d] => { results := [.lit (.bool false)], args := [d] }
  | _ => none }
def GreentreeRoundTripWrongFalsely : Prop := greentreeRoundTripRow.holds Tryz.pinned (OpenSpec.ofChange greentreeRoundTripWrong)

/-- 'glossatorkeep1.GreentreeIdentity': WHATEVER THE INPUT: true; the input reads as it did. -/
def greentreeIdentitySpec : ChangeSpec := { name := "greentreeIdentity", fn := fun _ => fun
  | [d1, d2] => { results := [.lit (.bool true)], args := [d1, d2] }
  | _ => none }
def greentreeIdentityRow : OpenClaim := { program := "ytkikcleofaeigaagreatdoor", sum := "4bb716391dead978def3e3368e0b2440ba1498a21fc2b31e2833249080a07266", func := "glossator/glossatorkeep1.GreentreeIdentity", spec := "greentreeIdentity", inPlace := ["internal/bytealg.IndexByteString", "slices.overlaps[glossator/api.SyntaxTree]"], unfollowed := true, recurses := true, named := ["strings.asciiSpace", "unicode.White_Space"], plainKeys := false, apart := false, laid := [("unicode.White_Space", laid_unicode_White_Space), ("strings.asciiSpace", laid_strings_asciiSpace)] }
def GreentreeIdentitySaid : Prop := greentreeIdentityRow.holds Tryz.pinned (OpenSpec.ofChange greentreeIdentitySpec)

/-- ITS FALSE NEIGHBOUR: 'it returns false'. Refute it at one input. -/
def greentreeIdentityWrong : ChangeSpec := { name := "greentreeIdentity", fn := fun _ => fun
  | [d1, d2] => { results := [.lit (.bool false)], args := [d1, d2] }
  | _ => none }
def GreentreeIdentityWrongFalsely : Prop := greentreeIdentityRow.holds Tryz.pinned (OpenSpec.ofChange greentreeIdentityWrong)

/-- 'glossatorkeep1.GreentreeShares': WHATEVER THE INPUT: true; the input reads as it did. -/
def greentreeSharesSpec : ChangeSpec := { name := "greentreeShares", fn := fun _ => fun
  | [d1, d2] => { results := [.lit (.bool true)], args := [d1, d2] }
  | _ => none }
def greentreeSharesRow : OpenClaim := { program := "ytkikcleofaeigaagreatdoor", sum := "4bb716391dead978def3e3368e0b2440ba1498a21fc2b31e2833249080a07266", func := "glossator/glossatorkeep1.GreentreeShares", spec := "greentreeShares", inPlace := ["internal/bytealg.IndexByteString", "slices.overlaps[glossator/api.SyntaxTree]"], unfollowed := true, recurses := true, named := ["strings.asciiSpace", "unicode.White_Space"], plainKeys := false, apart := false, laid := [("unicode.White_Space", laid_unicode_White_Space), ("strings.asciiSpace", laid_strings_asciiSpace)] }
def GreentreeSharesSaid : Prop := greentreeSharesRow.holds Tryz.pinned (OpenSpec.ofChange greentreeSharesSpec)

/-- ITS FALSE NEIGHBOUR: 'it returns false'. Refute it at one input. -/
def greentreeSharesWrong : ChangeSpec := { name := "greentreeShares", fn := fun _ => fun
  | [d1, d2] => { results := [.lit (.bool false)], args := [d1, d2] }
  | _ => none }
def GreentreeSharesWrongFalsely : Prop := greentreeSharesRow.holds Tryz.pinned (OpenSpec.ofChange greentreeSharesWrong)

/-- 'glossatorkeep1.ReparseEqualsParse': WHATEVER THE INPUT: true; the input reads as it did. -/
def reparseEqualsParseSpec : ChangeSpec := { name := "reparseEqualsParse", fn := fun _ => fun
  | [d1, d2] => { results := [.lit (.bool true)], args := [d1, d2] }
  | _ => none }
def reparseEqualsParseRow : OpenClaim := { program := "ytkikcleofaeigaagreatdoor", sum := "4bb716391dead978def3e3368e0b2440ba1498a21fc2b31e2833249080a07266", func := "glossator/glossatorkeep1.ReparseEqualsParse", spec := "reparseEqualsParse", inPlace := ["internal/bytealg.IndexByteString", "slices.overlaps[glossator/api.SyntaxTree]", "internal/abi.NoEscape"], unfollowed := true, recurses := true, named := ["strings.asciiSpace", "unicode.White_Space"], plainKeys := false, apart := false, laid := [("unicode.White_Space", laid_unicode_White_Space), ("strings.asciiSpace", laid_strings_asciiSpace)] }
def ReparseEqualsParseSaid : Prop := reparseEqualsParseRow.holds Tryz.pinned (OpenSpec.ofChange reparseEqualsParseSpec)

/-- ITS FALSE NEIGHBOUR: 'it returns false'. Refute it at one input. -/
def reparseEqualsParseWrong : ChangeSpec := { name := "reparseEqualsParse", fn := fun _ => fun
  | [d1, d2] => { results := [.lit (.bool false)], args := [d1, d2] }
  | _ => none }
def ReparseEqualsParseWrongFalsely : Prop := reparseEqualsParseRow.holds Tryz.pinned (OpenSpec.ofChange reparseEqualsParseWrong)

/-- 'glossatorkeep1.ReparseReuses': WHATEVER THE INPUT: true; the input reads as it did. -/
def reparseReusesSpec : ChangeSpec := { name := "reparseReuses", fn := fun _ => fun
  | [d1, d2] => { results := [.lit (.bool true)], args := [d1, d2] }
  | _ => none }
def reparseReusesRow : OpenClaim := { program := "ytkikcleofaeigaagreatdoor", sum := "4bb716391dead978def3e3368e0b2440ba1498a21fc2b31e2833249080a07266", func := "glossator/glossatorkeep1.ReparseReuses", spec := "reparseReuses", inPlace := ["internal/bytealg.IndexByteString", "slices.overlaps[glossator/api.SyntaxTree]", "internal/abi.NoEscape"], unfollowed := true, recurses := true, named := ["strings.asciiSpace", "unicode.White_Space"], plainKeys := false, apart := false, laid := [("unicode.White_Space", laid_unicode_White_Space), ("strings.asciiSpace", laid_strings_asciiSpace)] }
def ReparseReusesSaid : Prop := reparseReusesRow.holds Tryz.pinned (OpenSpec.ofChange reparseReusesSpec)

/-- ITS FALSE NEIGHBOUR: 'it returns false'. Refute it at one input. -/
def reparseReusesWrong : ChangeSpec := { name := "reparseReuses", fn := fun _ => fun
  | [d1, d2] => { results := [.lit (.bool false)], args := [d1, d2] }
  | _ => none }
def ReparseReusesWrongFalsely : Prop := reparseReusesRow.holds Tryz.pinned (OpenSpec.ofChange reparseReusesWrong)

/-- 'glossatorkeep1.ReparseErrors': WHATEVER THE INPUT: true; the input reads as it did. -/
def reparseErrorsSpec : ChangeSpec := { name := "reparseErrors", fn := fun _ => fun
  | [d1, d2, d3] => { results := [.lit (.bool true)], args := [d1, d2, d3] }
  | _ => none }
def reparseErrorsRow : OpenClaim := { program := "ytkikcleofaeigaagreatdoor", sum := "4bb716391dead978def3e3368e0b2440ba1498a21fc2b31e2833249080a07266", func := "glossator/glossatorkeep1.ReparseErrors", spec := "reparseErrors", inPlace := ["internal/bytealg.IndexByteString", "slices.overlaps[glossator/api.SyntaxTree]", "internal/abi.NoEscape"], unfollowed := true, recurses := true, named := ["strings.asciiSpace", "unicode.White_Space"], plainKeys := false, apart := false, laid := [("unicode.White_Space", laid_unicode_White_Space), ("strings.asciiSpace", laid_strings_asciiSpace)] }
def ReparseErrorsSaid : Prop := reparseErrorsRow.holds Tryz.pinned (OpenSpec.ofChange reparseErrorsSpec)

/-- ITS FALSE NEIGHBOUR: 'it returns false'. Refute it at one input. -/
def reparseErrorsWrong : ChangeSpec := { name := "reparseErrors", fn := fun _ => fun
  | [d1, d2, d3] => { results := [.lit (.bool false)], args := [d1, d2, d3] }
  | _ => none }
def ReparseErrorsWrongFalsely : Prop := reparseErrorsRow.holds Tryz.pinned (OpenSpec.ofChange reparseErrorsWrong)

/-- 'glossatorkeep1.ParserLossless': WHATEVER THE INPUT: true; the input reads as it did. -/
def parserLosslessSpec : ChangeSpec := { name := "parserLossless", fn := fun _ => fun
  | [d] => { results := [.lit (.bool true)], args := [d] }
  | _ => none }
def parserLosslessRow : OpenClaim := { program := "ytkikcleofaeigaagreatdoor", sum := "4bb716391dead978def3e3368e0b2440ba1498a21fc2b31e2833249080a07266", func := "glossator/glossatorkeep1.ParserLossless", spec := "parserLossless", inPlace := ["internal/bytealg.IndexByteString", "slices.overlaps[glossator/api.SyntaxTree]", "internal/abi.NoEscape"], unfollowed := true, recurses := true, named := ["strings.asciiSpace", "unicode.White_Space", "strconv.ErrSyntax", "strconv.ErrRange", "internal/strconv.uint64pow10", "math/bits.deBruijn32tab", "math/bits.deBruijn64tab"], plainKeys := false, apart := false, laid := [("math/bits.deBruijn32tab", laid_math_bits_deBruijn32tab), ("math/bits.deBruijn64tab", laid_math_bits_deBruijn64tab), ("internal/strconv.uint64pow10", laid_internal_strconv_uint64pow10), ("strconv.ErrRange", laid_strconv_ErrRange), ("strconv.ErrSyntax", laid_strconv_ErrSyntax), ("unicode.White_Space", laid_unicode_White_Space), ("strings.asciiSpace", laid_strings_asciiSpace)] }
def ParserLosslessSaid : Prop := parserLosslessRow.holds Tryz.pinned (OpenSpec.ofChange parserLosslessSpec)

/-- ITS FALSE NEIGHBOUR: 'it returns false'. Refute it at one input. -/
def parserLosslessWrong : ChangeSpec := { name := "parserLossless", fn := fun _ => fun
  | [d] => { results := [.lit (.bool false)], args := [d] }
  | _ => none }
def ParserLosslessWrongFalsely : Prop := parserLosslessRow.holds Tryz.pinned (OpenSpec.ofChange parserLosslessWrong)

/- THE SECOND FORM. 'bulk': how many values and letters a reading holds, each counted each time it is reached (what is shared counts as often as it is met; a slice's spare places count too). A statement '..UptoSaid' is the law's where the arguments, and the package variables that the reading takes, are together of bulk at most 1048576: NARROWER than '..Said'. Prove '..Said' where nothing that the law and all that it calls make is longer than what came in: it says more and counts as full. Else prove '..UptoSaid'. A law counts once. -/
mutual
def uptoBulk {H : Type} : DataW H → Nat
  | .lit (.string bytes) => bytes.length + 1
  | .lit _ => 1
  | .nil => 1
  | .ptr d => uptoBulk d + 1
  | .slice elems spare => uptoBulkAll elems + uptoBulkAll spare + 1
  | .agg parts => uptoBulkAll parts + 1
  | .iface _ d => uptoBulk d + 1
  | .map entries => uptoBulkEntries entries + 1
  | .held _ => 1
def uptoBulkAll {H : Type} : List (DataW H) → Nat
  | [] => 0
  | d :: r => uptoBulk d + uptoBulkAll r
def uptoBulkEntries {H : Type} : List (Lit × DataW H) → Nat
  | [] => 0
  | x :: r => uptoBulkEntry x + uptoBulkEntries r
def uptoBulkEntry {H : Type} : Lit × DataW H → Nat
  | (.string bytes, d) => bytes.length + uptoBulk d + 1
  | (_, d) => uptoBulk d + 1
 end
def uptoSmall : (H : Type) → List (DataW H) → Bool := fun _ ds => decide (uptoBulkAll ds ≤ 1048576)
def OpenSpec.upto (s : _root_.Go.ChangeSpec) : _root_.Go.OpenSpec := { _root_.Go.OpenSpec.ofChange s with cond := some uptoSmall }

/-- 'glossatortop.TopEdited', WHERE WHAT IT READS IS OF BULK AT MOST 1048576: true; the input reads as it did. -/
def topEditedUptoRow : OpenClaim := { program := "ytkikcleofaeigaagreatdoor", sum := "4bb716391dead978def3e3368e0b2440ba1498a21fc2b31e2833249080a07266", func := "glossator/glossatortop.TopEdited", spec := "topEdited", inPlace := ["internal/abi.NoEscape", "internal/bytealg.IndexByteString", "internal/bytealg.abigen_runtime_cmpstring", "slices.overlaps[glossator/api.Module]", "slices.overlaps[int]"], unfollowed := true, recurses := true, named := ["strings.asciiSpace", "unicode.White_Space"], plainKeys := false, apart := false, laid := [("unicode.White_Space", laid_unicode_White_Space), ("strings.asciiSpace", laid_strings_asciiSpace)], narrowed := true }
def TopEditedUptoSaid : Prop := topEditedUptoRow.holds Tryz.pinned (OpenSpec.upto topEditedSpec)

/-- 'glossatorkeep1.GreentreeRoundTrip', WHERE WHAT IT READS IS OF BULK AT MOST 1048576: true; the input reads as it did. -/
def greentreeRoundTripUptoRow : OpenClaim := { program := "ytkikcleofaeigaagreatdoor", sum := "4bb716391dead978def3e3368e0b2440ba1498a21fc2b31e2833249080a07266", func := "glossator/glossatorkeep1.GreentreeRoundTrip", spec := "greentreeRoundTrip", inPlace := ["internal/bytealg.IndexByteString", "slices.overlaps[glossator/api.SyntaxTree]"], unfollowed := true, recurses := true, named := ["strings.asciiSpace", "unicode.White_Space"], plainKeys := false, apart := false, laid := [("unicode.White_Space", laid_unicode_White_Space), ("strings.asciiSpace", laid_strings_asciiSpace)], narrowed := true }
def GreentreeRoundTripUptoSaid : Prop := greentreeRoundTripUptoRow.holds Tryz.pinned (OpenSpec.upto greentreeRoundTripSpec)

/-- 'glossatorkeep1.GreentreeIdentity', WHERE WHAT IT READS IS OF BULK AT MOST 1048576: true; the input reads as it did. -/
def greentreeIdentityUptoRow : OpenClaim := { program := "ytkikcleofaeigaagreatdoor", sum := "4bb716391dead978def3e3368e0b2440ba1498a21fc2b31e2833249080a07266", func := "glossator/glossatorkeep1.GreentreeIdentity", spec := "greentreeIdentity", inPlace := ["internal/bytealg.IndexByteString", "slices.overlaps[glossator/api.SyntaxTree]"], unfollowed := true, recurses := true, named := ["strings.asciiSpace", "unicode.White_Space"], plainKeys := false, apart := false, laid := [("unicode.White_Space", laid_unicode_White_Space), ("strings.asciiSpace", laid_strings_asciiSpace)], narrowed := true }
def GreentreeIdentityUptoSaid : Prop := greentreeIdentityUptoRow.holds Tryz.pinned (OpenSpec.upto greentreeIdentitySpec)

/-- 'glossatorkeep1.GreentreeShares', WHERE WHAT IT READS IS OF BULK AT MOST 1048576: true; the input reads as it did. -/
def greentreeSharesUptoRow : OpenClaim := { program := "ytkikcleofaeigaagreatdoor", sum := "4bb716391dead978def3e3368e0b2440ba1498a21fc2b31e2833249080a07266", func := "glossator/glossatorkeep1.GreentreeShares", spec := "greentreeShares", inPlace := ["internal/bytealg.IndexByteString", "slices.overlaps[glossator/api.SyntaxTree]"], unfollowed := true, recurses := true, named := ["strings.asciiSpace", "unicode.White_Space"], plainKeys := false, apart := false, laid := [("unicode.White_Space", laid_unicode_White_Space), ("strings.asciiSpace", laid_strings_asciiSpace)], narrowed := true }
def GreentreeSharesUptoSaid : Prop := greentreeSharesUptoRow.holds Tryz.pinned (OpenSpec.upto greentreeSharesSpec)

/-- 'glossatorkeep1.ReparseEqualsParse', WHERE WHAT IT READS IS OF BULK AT MOST 1048576: true; the input reads as it did. -/
def reparseEqualsParseUptoRow : OpenClaim := { program := "ytkikcleofaeigaagreatdoor", sum := "4bb716391dead978def3e3368e0b2440ba1498a21fc2b31e2833249080a07266", func := "glossator/glossatorkeep1.ReparseEqualsParse", spec := "reparseEqualsParse", inPlace := ["internal/bytealg.IndexByteString", "slices.overlaps[glossator/api.SyntaxTree]", "internal/abi.NoEscape"], unfollowed := true, recurses := true, named := ["strings.asciiSpace", "unicode.White_Space"], plainKeys := false, apart := false, laid := [("unicode.White_Space", laid_unicode_White_Space), ("strings.asciiSpace", laid_strings_asciiSpace)], narrowed := true }
def ReparseEqualsParseUptoSaid : Prop := reparseEqualsParseUptoRow.holds Tryz.pinned (OpenSpec.upto reparseEqualsParseSpec)

/-- 'glossatorkeep1.ReparseReuses', WHERE WHAT IT READS IS OF BULK AT MOST 1048576: true; the input reads as it did. -/
def reparseReusesUptoRow : OpenClaim := { program := "ytkikcleofaeigaagreatdoor", sum := "4bb716391dead978def3e3368e0b2440ba1498a21fc2b31e2833249080a07266", func := "glossator/glossatorkeep1.ReparseReuses", spec := "reparseReuses", inPlace := ["internal/bytealg.IndexByteString", "slices.overlaps[glossator/api.SyntaxTree]", "internal/abi.NoEscape"], unfollowed := true, recurses := true, named := ["strings.asciiSpace", "unicode.White_Space"], plainKeys := false, apart := false, laid := [("unicode.White_Space", laid_unicode_White_Space), ("strings.asciiSpace", laid_strings_asciiSpace)], narrowed := true }
def ReparseReusesUptoSaid : Prop := reparseReusesUptoRow.holds Tryz.pinned (OpenSpec.upto reparseReusesSpec)

/-- 'glossatorkeep1.ReparseErrors', WHERE WHAT IT READS IS OF BULK AT MOST 1048576: true; the input reads as it did. -/
def reparseErrorsUptoRow : OpenClaim := { program := "ytkikcleofaeigaagreatdoor", sum := "4bb716391dead978def3e3368e0b2440ba1498a21fc2b31e2833249080a07266", func := "glossator/glossatorkeep1.ReparseErrors", spec := "reparseErrors", inPlace := ["internal/bytealg.IndexByteString", "slices.overlaps[glossator/api.SyntaxTree]", "internal/abi.NoEscape"], unfollowed := true, recurses := true, named := ["strings.asciiSpace", "unicode.White_Space"], plainKeys := false, apart := false, laid := [("unicode.White_Space", laid_unicode_White_Space), ("strings.asciiSpace", laid_strings_asciiSpace)], narrowed := true }
def ReparseErrorsUptoSaid : Prop := reparseErrorsUptoRow.holds Tryz.pinned (OpenSpec.upto reparseErrorsSpec)

/-- 'glossatorkeep1.ParserLossless', WHERE WHAT IT READS IS OF BULK AT MOST 1048576: true; the input reads as it did. -/
def parserLosslessUptoRow : OpenClaim := { program := "ytkikcleofaeigaagreatdoor", sum := "4bb716391dead978def3e3368e0b2440ba1498a21fc2b31e2833249080a07266", func := "glossator/glossatorkeep1.ParserLossless", spec := "parserLossless", inPlace := ["internal/bytealg.IndexByteString", "slices.overlaps[glossator/api.SyntaxTree]", "internal/abi.NoEscape"], unfollowed := true, recurses := true, named := ["strings.asciiSpace", "unicode.White_Space", "strconv.ErrSyntax", "strconv.ErrRange", "internal/strconv.uint64pow10", "math/bits.deBruijn32tab", "math/bits.deBruijn64tab"], plainKeys := false, apart := false, laid := [("math/bits.deBruijn32tab", laid_math_bits_deBruijn32tab), ("math/bits.deBruijn64tab", laid_math_bits_deBruijn64tab), ("internal/strconv.uint64pow10", laid_internal_strconv_uint64pow10), ("strconv.ErrRange", laid_strconv_ErrRange), ("strconv.ErrSyntax", laid_strconv_ErrSyntax), ("unicode.White_Space", laid_unicode_White_Space), ("strings.asciiSpace", laid_strings_asciiSpace)], narrowed := true }
def ParserLosslessUptoSaid : Prop := parserLosslessUptoRow.holds Tryz.pinned (OpenSpec.upto parserLosslessSpec)

end Rows
end Go.Proofs.YtkikcleofaeigaaGreatDoor
