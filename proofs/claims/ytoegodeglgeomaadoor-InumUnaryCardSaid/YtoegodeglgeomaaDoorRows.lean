/-
  NARROWER THAN 'FOR EVERY INPUT', by the rows' own cells (each row's printed sentence says how): InumOps: laid · InumBinary: laid · InumDivides: laid · InumOrders: laid · InumKnows: laid · InumUnary: laid · InumTurns: laid · InumExtends: laid.
  DERIVED. THE GIVEN ROWS OF THIS SEAT. 8 by the template 'for every input the law returns true; each argument reads behind the call as it read before'; 0 by the template 'total and deterministic' (their statements: YtoegodeglgeomaaDoorTotals.lean).
  GIVEN WITH THE SEED: the statements are not yours to turn. If you find one false, say at which input.
  Laid BY PROGRAM, IN A SANDBOX (cutbox-rows.mjs): the forced cells as the released guide's own fill.sh prints them over the translation b8dc203b23b466c4… (all of the seat's roots in one cut). By AI agents, Wed Nov 11 2026. No macro, syntax, notation, axiom, sorry.
-/
import Derived.Test.YtoegodeglgeomaaDoorChecked
import GoSem.Claim
import GoSem.ClaimJoined
import GoSem.ClaimMapViews
import Derived.JoinedTies
import Derived.KernelRfl
namespace Go.Proofs.YtoegodeglgeomaaDoor
/- THE CELL 'sum', in the pinned program and in every row, IS THE sha256 OF THE DUMP (.gsa) THAT YtoegodeglgeomaaDoorProg.lean LOADS. Nothing in Lean hashes anything: it is a label: what it is worth is what the hold of that sum in a sandbox is worth. -/
noncomputable def Tryd.pinned : Pinned := { name := "ytoegodeglgeomaadoor", sum := "b8dc203b23b466c41dcfb2fc68b38bf156d89bb04dc1e30b42e82c14d9d02238", checked := Tryd.checked }
namespace Rows
def none {H : Type} : Left H := { results := [], args := [] }

/- WHAT THE LISTED PACKAGE-LEVEL VARIABLES READ AS WHEN THE CALL BEGINS. Each datum BY PROGRAM (the guide's laid-datum.mjs) off the statement by which the dump's own 'gosem.cut.vars' lays the variable. In a bare row this is a premise. The card (YtoegodeglgeomaaDoorCards.lean) ties it to the program's text. -/
def laid_unicode_White_Space {H : Type} : DataW H := .ptr (.agg [.slice [.agg [.lit (.int .u16 9), .lit (.int .u16 13), .lit (.int .u16 1)], .agg [.lit (.int .u16 32), .lit (.int .u16 133), .lit (.int .u16 101)], .agg [.lit (.int .u16 160), .lit (.int .u16 5760), .lit (.int .u16 5600)], .agg [.lit (.int .u16 8192), .lit (.int .u16 8202), .lit (.int .u16 1)], .agg [.lit (.int .u16 8232), .lit (.int .u16 8233), .lit (.int .u16 1)], .agg [.lit (.int .u16 8239), .lit (.int .u16 8287), .lit (.int .u16 48)], .agg [.lit (.int .u16 12288), .lit (.int .u16 12288), .lit (.int .u16 1)]] [], .nil, .lit (.int .i64 2)])
def laid_strings_asciiSpace {H : Type} : DataW H := .agg [.lit (.int .u8 0), .lit (.int .u8 0), .lit (.int .u8 0), .lit (.int .u8 0), .lit (.int .u8 0), .lit (.int .u8 0), .lit (.int .u8 0), .lit (.int .u8 0), .lit (.int .u8 0), .lit (.int .u8 1), .lit (.int .u8 1), .lit (.int .u8 1), .lit (.int .u8 1), .lit (.int .u8 1), .lit (.int .u8 0), .lit (.int .u8 0), .lit (.int .u8 0), .lit (.int .u8 0), .lit (.int .u8 0), .lit (.int .u8 0), .lit (.int .u8 0), .lit (.int .u8 0), .lit (.int .u8 0), .lit (.int .u8 0), .lit (.int .u8 0), .lit (.int .u8 0), .lit (.int .u8 0), .lit (.int .u8 0), .lit (.int .u8 0), .lit (.int .u8 0), .lit (.int .u8 0), .lit (.int .u8 0), .lit (.int .u8 1), .lit (.int .u8 0), .lit (.int .u8 0), .lit (.int .u8 0), .lit (.int .u8 0), .lit (.int .u8 0), .lit (.int .u8 0), .lit (.int .u8 0), .lit (.int .u8 0), .lit (.int .u8 0), .lit (.int .u8 0), .lit (.int .u8 0), .lit (.int .u8 0), .lit (.int .u8 0), .lit (.int .u8 0), .lit (.int .u8 0), .lit (.int .u8 0), .lit (.int .u8 0), .lit (.int .u8 0), .lit (.int .u8 0), .lit (.int .u8 0), .lit (.int .u8 0), .lit (.int .u8 0), .lit (.int .u8 0), .lit (.int .u8 0), .lit (.int .u8 0), .lit (.int .u8 0), .lit (.int .u8 0), .lit (.int .u8 0), .lit (.int .u8 0), .lit (.int .u8 0), .lit (.int .u8 0), .lit (.int .u8 0), .lit (.int .u8 0), .lit (.int .u8 0), .lit (.int .u8 0), .lit (.int .u8 0), .lit (.int .u8 0), .lit (.int .u8 0), .lit (.int .u8 0), .lit (.int .u8 0), .lit (.int .u8 0), .lit (.int .u8 0), .lit (.int .u8 0), .lit (.int .u8 0), .lit (.int .u8 0), .lit (.int .u8 0), .lit (.int .u8 0), .lit (.int .u8 0), .lit (.int .u8 0), .lit (.int .u8 0), .lit (.int .u8 0), .lit (.int .u8 0), .lit (.int .u8 0), .lit (.int .u8 0), .lit (.int .u8 0), .lit (.int .u8 0), .lit (.int .u8 0), .lit (.int .u8 0), .lit (.int .u8 0), .lit (.int .u8 0), .lit (.int .u8 0), .lit (.int .u8 0), .lit (.int .u8 0), .lit (.int .u8 0), .lit (.int .u8 0), .lit (.int .u8 0), .lit (.int .u8 0), .lit (.int .u8 0), .lit (.int .u8 0), .lit (.int .u8 0), .lit (.int .u8 0), .lit (.int .u8 0), .lit (.int .u8 0), .lit (.int .u8 0), .lit (.int .u8 0), .lit (.int .u8 0), .lit (.int .u8 0), .lit (.int .u8 0), .lit (.int .u8 0), .lit (.int .u8 0), .lit (.int .u8 0), .lit (.int .u8 0), .lit (.int .u8 0), .lit (.int .u8 0), .lit (.int .u8 0), .lit (.int .u8 0), .lit (.int .u8 0), .lit (.int .u8 0), .lit (.int .u8 0), .lit (.int .u8 0), .lit (.int .u8 0), .lit (.int .u8 0), .lit (.int .u8 0), .lit (.int .u8 0), .lit (.int .u8 0), .lit (.int .u8 0), .lit (.int .u8 0), .lit (.int .u8 0), .lit (.int .u8 0), .lit (.int .u8 0), .lit (.int .u8 0), .lit (.int .u8 0), .lit (.int .u8 0), .lit (.int .u8 0), .lit (.int .u8 0), .lit (.int .u8 0), .lit (.int .u8 0), .lit (.int .u8 0), .lit (.int .u8 0), .lit (.int .u8 0), .lit (.int .u8 0), .lit (.int .u8 0), .lit (.int .u8 0), .lit (.int .u8 0), .lit (.int .u8 0), .lit (.int .u8 0), .lit (.int .u8 0), .lit (.int .u8 0), .lit (.int .u8 0), .lit (.int .u8 0), .lit (.int .u8 0), .lit (.int .u8 0), .lit (.int .u8 0), .lit (.int .u8 0), .lit (.int .u8 0), .lit (.int .u8 0), .lit (.int .u8 0), .lit (.int .u8 0), .lit (.int .u8 0), .lit (.int .u8 0), .lit (.int .u8 0), .lit (.int .u8 0), .lit (.int .u8 0), .lit (.int .u8 0), .lit (.int .u8 0), .lit (.int .u8 0), .lit (.int .u8 0), .lit (.int .u8 0), .lit (.int .u8 0), .lit (.int .u8 0), .lit (.int .u8 0), .lit (.int .u8 0), .lit (.int .u8 0), .lit (.int .u8 0), .lit (.int .u8 0), .lit (.int .u8 0), .lit (.int .u8 0), .lit (.int .u8 0), .lit (.int .u8 0), .lit (.int .u8 0), .lit (.int .u8 0), .lit (.int .u8 0), .lit (.int .u8 0), .lit (.int .u8 0), .lit (.int .u8 0), .lit (.int .u8 0), .lit (.int .u8 0), .lit (.int .u8 0), .lit (.int .u8 0), .lit (.int .u8 0), .lit (.int .u8 0), .lit (.int .u8 0), .lit (.int .u8 0), .lit (.int .u8 0), .lit (.int .u8 0), .lit (.int .u8 0), .lit (.int .u8 0), .lit (.int .u8 0), .lit (.int .u8 0), .lit (.int .u8 0), .lit (.int .u8 0), .lit (.int .u8 0), .lit (.int .u8 0), .lit (.int .u8 0), .lit (.int .u8 0), .lit (.int .u8 0), .lit (.int .u8 0), .lit (.int .u8 0), .lit (.int .u8 0), .lit (.int .u8 0), .lit (.int .u8 0), .lit (.int .u8 0), .lit (.int .u8 0), .lit (.int .u8 0), .lit (.int .u8 0), .lit (.int .u8 0), .lit (.int .u8 0), .lit (.int .u8 0), .lit (.int .u8 0), .lit (.int .u8 0), .lit (.int .u8 0), .lit (.int .u8 0), .lit (.int .u8 0), .lit (.int .u8 0), .lit (.int .u8 0), .lit (.int .u8 0), .lit (.int .u8 0), .lit (.int .u8 0), .lit (.int .u8 0), .lit (.int .u8 0), .lit (.int .u8 0), .lit (.int .u8 0), .lit (.int .u8 0), .lit (.int .u8 0), .lit (.int .u8 0), .lit (.int .u8 0), .lit (.int .u8 0), .lit (.int .u8 0), .lit (.int .u8 0), .lit (.int .u8 0), .lit (.int .u8 0), .lit (.int .u8 0), .lit (.int .u8 0), .lit (.int .u8 0), .lit (.int .u8 0), .lit (.int .u8 0), .lit (.int .u8 0), .lit (.int .u8 0), .lit (.int .u8 0), .lit (.int .u8 0), .lit (.int .u8 0), .lit (.int .u8 0), .lit (.int .u8 0)]
def laid_math_bits_deBruijn32tab {H : Type} : DataW H := .agg [.lit (.int .u8 0), .lit (.int .u8 1), .lit (.int .u8 28), .lit (.int .u8 2), .lit (.int .u8 29), .lit (.int .u8 14), .lit (.int .u8 24), .lit (.int .u8 3), .lit (.int .u8 30), .lit (.int .u8 22), .lit (.int .u8 20), .lit (.int .u8 15), .lit (.int .u8 25), .lit (.int .u8 17), .lit (.int .u8 4), .lit (.int .u8 8), .lit (.int .u8 31), .lit (.int .u8 27), .lit (.int .u8 13), .lit (.int .u8 23), .lit (.int .u8 21), .lit (.int .u8 19), .lit (.int .u8 16), .lit (.int .u8 7), .lit (.int .u8 26), .lit (.int .u8 12), .lit (.int .u8 18), .lit (.int .u8 6), .lit (.int .u8 11), .lit (.int .u8 5), .lit (.int .u8 10), .lit (.int .u8 9)]
def laid_math_bits_deBruijn64tab {H : Type} : DataW H := .agg [.lit (.int .u8 0), .lit (.int .u8 1), .lit (.int .u8 56), .lit (.int .u8 2), .lit (.int .u8 57), .lit (.int .u8 49), .lit (.int .u8 28), .lit (.int .u8 3), .lit (.int .u8 61), .lit (.int .u8 58), .lit (.int .u8 42), .lit (.int .u8 50), .lit (.int .u8 38), .lit (.int .u8 29), .lit (.int .u8 17), .lit (.int .u8 4), .lit (.int .u8 62), .lit (.int .u8 47), .lit (.int .u8 59), .lit (.int .u8 36), .lit (.int .u8 45), .lit (.int .u8 43), .lit (.int .u8 51), .lit (.int .u8 22), .lit (.int .u8 53), .lit (.int .u8 39), .lit (.int .u8 33), .lit (.int .u8 30), .lit (.int .u8 24), .lit (.int .u8 18), .lit (.int .u8 12), .lit (.int .u8 5), .lit (.int .u8 63), .lit (.int .u8 55), .lit (.int .u8 48), .lit (.int .u8 27), .lit (.int .u8 60), .lit (.int .u8 41), .lit (.int .u8 37), .lit (.int .u8 16), .lit (.int .u8 46), .lit (.int .u8 35), .lit (.int .u8 44), .lit (.int .u8 21), .lit (.int .u8 52), .lit (.int .u8 32), .lit (.int .u8 23), .lit (.int .u8 11), .lit (.int .u8 54), .lit (.int .u8 26), .lit (.int .u8 40), .lit (.int .u8 15), .lit (.int .u8 34), .lit (.int .u8 20), .lit (.int .u8 31), .lit (.int .u8 10), .lit (.int .u8 25), .lit (.int .u8 14), .lit (.int .u8 19), .lit (.int .u8 9), .lit (.int .u8 13), .lit (.int .u8 8), .lit (.int .u8 7), .lit (.int .u8 6)]

/-- 'ratchetlaw03.InumOps': WHATEVER THE INPUT: true; the input reads as it did. -/
def inumOpsSpec : ChangeSpec := { name := "inumOps", fn := fun _ => fun
  | [d] => { results := [.lit (.bool true)], args := [d] }
  | _ => none }
def inumOpsRow : OpenClaim := { program := "ytoegodeglgeomaadoor", sum := "b8dc203b23b466c41dcfb2fc68b38bf156d89bb04dc1e30b42e82c14d9d02238", func := "ratchet/ratchetlaw03.InumOps", spec := "inumOps", unfollowed := true, recurses := true, named := ["strings.asciiSpace", "unicode.White_Space"], apart := false, laid := [("unicode.White_Space", laid_unicode_White_Space), ("strings.asciiSpace", laid_strings_asciiSpace)] }
def InumOpsSaid : Prop := inumOpsRow.holds Tryd.pinned (OpenSpec.ofChange inumOpsSpec)

/-- ITS FALSE NEIGHBOUR: 'it returns false'. Refute it at one input. -/
def inumOpsWrong : ChangeSpec := { name := "inumOps", fn := fun _ => fun
  | [d] => { results := [.lit (.bool false)], args := [d] }
  | _ => none }
def InumOpsWrongFalsely : Prop := inumOpsRow.holds Tryd.pinned (OpenSpec.ofChange inumOpsWrong)

/-- 'ratchetlaw03.InumBinary': WHATEVER THE INPUT: true; the input reads as it did. -/
def inumBinarySpec : ChangeSpec := { name := "inumBinary", fn := fun _ => fun
  | [d1, d2, d3] => { results := [.lit (.bool true)], args := [d1, d2, d3] }
  | _ => none }
def inumBinaryRow : OpenClaim := { program := "ytoegodeglgeomaadoor", sum := "b8dc203b23b466c41dcfb2fc68b38bf156d89bb04dc1e30b42e82c14d9d02238", func := "ratchet/ratchetlaw03.InumBinary", spec := "inumBinary", unfollowed := true, recurses := true, named := ["strings.asciiSpace", "unicode.White_Space"], apart := false, laid := [("unicode.White_Space", laid_unicode_White_Space), ("strings.asciiSpace", laid_strings_asciiSpace)] }
def InumBinarySaid : Prop := inumBinaryRow.holds Tryd.pinned (OpenSpec.ofChange inumBinarySpec)

/-- ITS FALSE NEIGHBOUR: 'it returns false'. Refute it at one input. -/
def inumBinaryWrong : ChangeSpec := { name := "inumBinary", fn := fun _ => fun
  | [d1, d2, d3] => { results := [.lit (.bool false)], args := [d1, d2, d3] }
  | _ => none }
def InumBinaryWrongFalsely : Prop := inumBinaryRow.holds Tryd.pinned (OpenSpec.ofChange inumBinaryWrong)

/-- 'ratchetlaw03.InumDivides': WHATEVER THE INPUT: true; the input reads as it did. -/
def inumDividesSpec : ChangeSpec := { name := "inumDivides", fn := fun _ => fun
  | [d1, d2, d3] => { results := [.lit (.bool true)], args := [d1, d2, d3] }
  | _ => none }
def inumDividesRow : OpenClaim := { program := "ytoegodeglgeomaadoor", sum := "b8dc203b23b466c41dcfb2fc68b38bf156d89bb04dc1e30b42e82c14d9d02238", func := "ratchet/ratchetlaw03.InumDivides", spec := "inumDivides", unfollowed := true, recurses := true, named := ["strings.asciiSpace", "unicode.White_Space"], apart := false, laid := [("unicode.White_Space", laid_unicode_White_Space), ("strings.asciiSpace", laid_strings_asciiSpace)] }
def InumDividesSaid : Prop := inumDividesRow.holds Tryd.pinned (OpenSpec.ofChange inumDividesSpec)

/-- ITS FALSE NEIGHBOUR: 'it returns false'. Refute it at one input. -/
def inumDividesWrong : ChangeSpec := { name := "inumDivides", fn := fun _ => fun
  | [d1, d2, d3] => { results := [.lit (.bool false)], args := [d1, d2, d3] }
  | _ => none }
def InumDividesWrongFalsely : Prop := inumDividesRow.holds Tryd.pinned (OpenSpec.ofChange inumDividesWrong)

/-- 'ratchetlaw03.InumOrders': WHATEVER THE INPUT: true; the input reads as it did. -/
def inumOrdersSpec : ChangeSpec := { name := "inumOrders", fn := fun _ => fun
  | [d1, d2, d3, d4] => { results := [.lit (.bool true)], args := [d1, d2, d3, d4] }
  | _ => none }
def inumOrdersRow : OpenClaim := { program := "ytoegodeglgeomaadoor", sum := "b8dc203b23b466c41dcfb2fc68b38bf156d89bb04dc1e30b42e82c14d9d02238", func := "ratchet/ratchetlaw03.InumOrders", spec := "inumOrders", unfollowed := true, recurses := true, named := ["strings.asciiSpace", "unicode.White_Space"], apart := false, laid := [("unicode.White_Space", laid_unicode_White_Space), ("strings.asciiSpace", laid_strings_asciiSpace)] }
def InumOrdersSaid : Prop := inumOrdersRow.holds Tryd.pinned (OpenSpec.ofChange inumOrdersSpec)

/-- ITS FALSE NEIGHBOUR: 'it returns false'. Refute it at one input. -/
def inumOrdersWrong : ChangeSpec := { name := "inumOrders", fn := fun _ => fun
  | [d1, d2, d3, d4] => { results := [.lit (.bool false)], args := [d1, d2, d3, d4] }
  | _ => none }
def InumOrdersWrongFalsely : Prop := inumOrdersRow.holds Tryd.pinned (OpenSpec.ofChange inumOrdersWrong)

/-- 'ratchetlaw03.InumKnows': WHATEVER THE INPUT: true; the input reads as it did. -/
def inumKnowsSpec : ChangeSpec := { name := "inumKnows", fn := fun _ => fun
  | [d] => { results := [.lit (.bool true)], args := [d] }
  | _ => none }
def inumKnowsRow : OpenClaim := { program := "ytoegodeglgeomaadoor", sum := "b8dc203b23b466c41dcfb2fc68b38bf156d89bb04dc1e30b42e82c14d9d02238", func := "ratchet/ratchetlaw03.InumKnows", spec := "inumKnows", unfollowed := true, recurses := true, named := ["strings.asciiSpace", "unicode.White_Space"], apart := false, laid := [("unicode.White_Space", laid_unicode_White_Space), ("strings.asciiSpace", laid_strings_asciiSpace)] }
def InumKnowsSaid : Prop := inumKnowsRow.holds Tryd.pinned (OpenSpec.ofChange inumKnowsSpec)

/-- ITS FALSE NEIGHBOUR: 'it returns false'. Refute it at one input. -/
def inumKnowsWrong : ChangeSpec := { name := "inumKnows", fn := fun _ => fun
  | [d] => { results := [.lit (.bool false)], args := [d] }
  | _ => none }
def InumKnowsWrongFalsely : Prop := inumKnowsRow.holds Tryd.pinned (OpenSpec.ofChange inumKnowsWrong)

/-- 'ratchetlaw03.InumUnary': WHATEVER THE INPUT: true; the input reads as it did. -/
def inumUnarySpec : ChangeSpec := { name := "inumUnary", fn := fun _ => fun
  | [d1, d2] => { results := [.lit (.bool true)], args := [d1, d2] }
  | _ => none }
def inumUnaryRow : OpenClaim := { program := "ytoegodeglgeomaadoor", sum := "b8dc203b23b466c41dcfb2fc68b38bf156d89bb04dc1e30b42e82c14d9d02238", func := "ratchet/ratchetlaw03.InumUnary", spec := "inumUnary", unfollowed := true, recurses := true, named := ["strings.asciiSpace", "unicode.White_Space", "math/bits.deBruijn64tab", "math/bits.deBruijn32tab"], apart := false, laid := [("math/bits.deBruijn32tab", laid_math_bits_deBruijn32tab), ("math/bits.deBruijn64tab", laid_math_bits_deBruijn64tab), ("unicode.White_Space", laid_unicode_White_Space), ("strings.asciiSpace", laid_strings_asciiSpace)] }
def InumUnarySaid : Prop := inumUnaryRow.holds Tryd.pinned (OpenSpec.ofChange inumUnarySpec)

/-- ITS FALSE NEIGHBOUR: 'it returns false'. Refute it at one input. -/
def inumUnaryWrong : ChangeSpec := { name := "inumUnary", fn := fun _ => fun
  | [d1, d2] => { results := [.lit (.bool false)], args := [d1, d2] }
  | _ => none }
def InumUnaryWrongFalsely : Prop := inumUnaryRow.holds Tryd.pinned (OpenSpec.ofChange inumUnaryWrong)

/-- 'ratchetlaw03.InumTurns': WHATEVER THE INPUT: true; the input reads as it did. -/
def inumTurnsSpec : ChangeSpec := { name := "inumTurns", fn := fun _ => fun
  | [d1, d2, d3] => { results := [.lit (.bool true)], args := [d1, d2, d3] }
  | _ => none }
def inumTurnsRow : OpenClaim := { program := "ytoegodeglgeomaadoor", sum := "b8dc203b23b466c41dcfb2fc68b38bf156d89bb04dc1e30b42e82c14d9d02238", func := "ratchet/ratchetlaw03.InumTurns", spec := "inumTurns", unfollowed := true, recurses := true, named := ["strings.asciiSpace", "unicode.White_Space", "math/bits.deBruijn64tab", "math/bits.deBruijn32tab"], apart := false, laid := [("math/bits.deBruijn32tab", laid_math_bits_deBruijn32tab), ("math/bits.deBruijn64tab", laid_math_bits_deBruijn64tab), ("unicode.White_Space", laid_unicode_White_Space), ("strings.asciiSpace", laid_strings_asciiSpace)] }
def InumTurnsSaid : Prop := inumTurnsRow.holds Tryd.pinned (OpenSpec.ofChange inumTurnsSpec)

/-- ITS FALSE NEIGHBOUR: 'it returns false'. Refute it at one input. -/
def inumTurnsWrong : ChangeSpec := { name := "inumTurns", fn := fun _ => fun
  | [d1, d2, d3] => { results := [.lit (.bool false)], args := [d1, d2, d3] }
  | _ => none }
def InumTurnsWrongFalsely : Prop := inumTurnsRow.holds Tryd.pinned (OpenSpec.ofChange inumTurnsWrong)

/-- 'ratchetlaw03.InumExtends': WHATEVER THE INPUT: true; the input reads as it did. -/
def inumExtendsSpec : ChangeSpec := { name := "inumExtends", fn := fun _ => fun
  | [d] => { results := [.lit (.bool true)], args := [d] }
  | _ => none }
def inumExtendsRow : OpenClaim := { program := "ytoegodeglgeomaadoor", sum := "b8dc203b23b466c41dcfb2fc68b38bf156d89bb04dc1e30b42e82c14d9d02238", func := "ratchet/ratchetlaw03.InumExtends", spec := "inumExtends", unfollowed := true, recurses := true, named := ["strings.asciiSpace", "unicode.White_Space", "math/bits.deBruijn64tab", "math/bits.deBruijn32tab"], apart := false, laid := [("math/bits.deBruijn32tab", laid_math_bits_deBruijn32tab), ("math/bits.deBruijn64tab", laid_math_bits_deBruijn64tab), ("unicode.White_Space", laid_unicode_White_Space), ("strings.asciiSpace", laid_strings_asciiSpace)] }
def InumExtendsSaid : Prop := inumExtendsRow.holds Tryd.pinned (OpenSpec.ofChange inumExtendsSpec)

/-- ITS FALSE NEIGHBOUR: 'it returns false'. Refute it at one input. -/
def inumExtendsWrong : ChangeSpec := { name := "inumExtends", fn := fun _ => fun
  | [d] => { results := [.lit (.bool false)], args := [d] }
  | _ => none }
def InumExtendsWrongFalsely : Prop := inumExtendsRow.holds Tryd.pinned (OpenSpec.ofChange inumExtendsWrong)

/- THE SECOND FORM. 'bulk': how many values and letters a reading holds, each counted each time it is reached (what is shared counts as often as it is met; a slice's spare places count too). A statement '..UptoSaid' is the law's where the arguments, and the package variables that the reading takes, are together of bulk at most 1048576: NARROWER than '..Said'. Prove '..Said' where nothing that the law and all that it calls make is longer than what came in: it says more and counts as full. Else prove '..UptoSaid'. A law counts once. -/
mutual
def uptoBulk {H : Type} : DataW H → Nat
  | .lit (.string bytes) => bytes.length + 1
  | .lit _ => 1
  | .nil => 1
  | .ptr d => uptoBulk d + 1
  | .slice elems spare => uptoBulkAll elems + uptoBulkAll spare + 1
  | .agg parts => uptoBulkAll parts + 1
  | .iface _ d => uptoBulk d + 1
  | .map entries => uptoBulkEntries entries + 1
  | .held _ => 1
def uptoBulkAll {H : Type} : List (DataW H) → Nat
  | [] => 0
  | d :: r => uptoBulk d + uptoBulkAll r
def uptoBulkEntries {H : Type} : List (Lit × DataW H) → Nat
  | [] => 0
  | x :: r => uptoBulkEntry x + uptoBulkEntries r
def uptoBulkEntry {H : Type} : Lit × DataW H → Nat
  | (.string bytes, d) => bytes.length + uptoBulk d + 1
  | (_, d) => uptoBulk d + 1
 end
def uptoSmall : (H : Type) → List (DataW H) → Bool := fun _ ds => decide (uptoBulkAll ds ≤ 1048576)
def OpenSpec.upto (s : _root_.Go.ChangeSpec) : _root_.Go.OpenSpec := { _root_.Go.OpenSpec.ofChange s with cond := some uptoSmall }

/-- 'ratchetlaw03.InumOps', WHERE WHAT IT READS IS OF BULK AT MOST 1048576: true; the input reads as it did. -/
def inumOpsUptoRow : OpenClaim := { program := "ytoegodeglgeomaadoor", sum := "b8dc203b23b466c41dcfb2fc68b38bf156d89bb04dc1e30b42e82c14d9d02238", func := "ratchet/ratchetlaw03.InumOps", spec := "inumOps", unfollowed := true, recurses := true, named := ["strings.asciiSpace", "unicode.White_Space"], apart := false, laid := [("unicode.White_Space", laid_unicode_White_Space), ("strings.asciiSpace", laid_strings_asciiSpace)], narrowed := true }
def InumOpsUptoSaid : Prop := inumOpsUptoRow.holds Tryd.pinned (OpenSpec.upto inumOpsSpec)

/-- 'ratchetlaw03.InumBinary', WHERE WHAT IT READS IS OF BULK AT MOST 1048576: true; the input reads as it did. -/
def inumBinaryUptoRow : OpenClaim := { program := "ytoegodeglgeomaadoor", sum := "b8dc203b23b466c41dcfb2fc68b38bf156d89bb04dc1e30b42e82c14d9d02238", func := "ratchet/ratchetlaw03.InumBinary", spec := "inumBinary", unfollowed := true, recurses := true, named := ["strings.asciiSpace", "unicode.White_Space"], apart := false, laid := [("unicode.White_Space", laid_unicode_White_Space), ("strings.asciiSpace", laid_strings_asciiSpace)], narrowed := true }
def InumBinaryUptoSaid : Prop := inumBinaryUptoRow.holds Tryd.pinned (OpenSpec.upto inumBinarySpec)

/-- 'ratchetlaw03.InumDivides', WHERE WHAT IT READS IS OF BULK AT MOST 1048576: true; the input reads as it did. -/
def inumDividesUptoRow : OpenClaim := { program := "ytoegodeglgeomaadoor", sum := "b8dc203b23b466c41dcfb2fc68b38bf156d89bb04dc1e30b42e82c14d9d02238", func := "ratchet/ratchetlaw03.InumDivides", spec := "inumDivides", unfollowed := true, recurses := true, named := ["strings.asciiSpace", "unicode.White_Space"], apart := false, laid := [("unicode.White_Space", laid_unicode_White_Space), ("strings.asciiSpace", laid_strings_asciiSpace)], narrowed := true }
def InumDividesUptoSaid : Prop := inumDividesUptoRow.holds Tryd.pinned (OpenSpec.upto inumDividesSpec)

/-- 'ratchetlaw03.InumOrders', WHERE WHAT IT READS IS OF BULK AT MOST 1048576: true; the input reads as it did. -/
def inumOrdersUptoRow : OpenClaim := { program := "ytoegodeglgeomaadoor", sum := "b8dc203b23b466c41dcfb2fc68b38bf156d89bb04dc1e30b42e82c14d9d02238", func := "ratchet/ratchetlaw03.InumOrders", spec := "inumOrders", unfollowed := true, recurses := true, named := ["strings.asciiSpace", "unicode.White_Space"], apart := false, laid := [("unicode.White_Space", laid_unicode_White_Space), ("strings.asciiSpace", laid_strings_asciiSpace)], narrowed := true }
def InumOrdersUptoSaid : Prop := inumOrdersUptoRow.holds Tryd.pinned (OpenSpec.upto inumOrdersSpec)

/-- 'ratchetlaw03.InumKnows', WHERE WHAT IT READS IS OF BULK AT MOST 1048576: true; the input reads as it did. -/
def inumKnowsUptoRow : OpenClaim := { program := "ytoegodeglgeomaadoor", sum := "b8dc203b23b466c41dcfb2fc68b38bf156d89bb04dc1e30b42e82c14d9d02238", func := "ratchet/ratchetlaw03.InumKnows", spec := "inumKnows", unfollowed := true, recurses := true, named := ["strings.asciiSpace", "unicode.White_Space"], apart := false, laid := [("unicode.White_Space", laid_unicode_White_Space), ("strings.asciiSpace", laid_strings_asciiSpace)], narrowed := true }
def InumKnowsUptoSaid : Prop := inumKnowsUptoRow.holds Tryd.pinned (OpenSpec.upto inumKnowsSpec)

/-- 'ratchetlaw03.InumUnary', WHERE WHAT IT READS IS OF BULK AT MOST 1048576: true; the input reads as it did. -/
def inumUnaryUptoRow : OpenClaim := { program := "ytoegodeglgeomaadoor", sum := "b8dc203b23b466c41dcfb2fc68b38bf156d89bb04dc1e30b42e82c14d9d02238", func := "ratchet/ratchetlaw03.InumUnary", spec := "inumUnary", unfollowed := true, recurses := true, named := ["strings.asciiSpace", "unicode.White_Space", "math/bits.deBruijn64tab", "math/bits.deBruijn32tab"], apart := false, laid := [("math/bits.deBruijn32tab", laid_math_bits_deBruijn32tab), ("math/bits.deBruijn64tab", laid_math_bits_deBruijn64tab), ("unicode.White_Space", laid_unicode_White_Space), ("strings.asciiSpace", laid_strings_asciiSpace)], narrowed := true }
def InumUnaryUptoSaid : Prop := inumUnaryUptoRow.holds Tryd.pinned (OpenSpec.upto inumUnarySpec)

/-- 'ratchetlaw03.InumTurns', WHERE WHAT IT READS IS OF BULK AT MOST 1048576: true; the input reads as it did. -/
def inumTurnsUptoRow : OpenClaim := { program := "ytoegodeglgeomaadoor", sum := "b8dc203b23b466c41dcfb2fc68b38bf156d89bb04dc1e30b42e82c14d9d02238", func := "ratchet/ratchetlaw03.InumTurns", spec := "inumTurns", unfollowed := true, recurses := true, named := ["strings.asciiSpace", "unicode.White_Space", "math/bits.deBruijn64tab", "math/bits.deBruijn32tab"], apart := false, laid := [("math/bits.deBruijn32tab", laid_math_bits_deBruijn32tab), ("math/bits.deBruijn64tab", laid_math_bits_deBruijn64tab), ("unicode.White_Space", laid_unicode_White_Space), ("strings.asciiSpace", laid_strings_asciiSpace)], narrowed := true }
def InumTurnsUptoSaid : Prop := inumTurnsUptoRow.holds Tryd.pinned (OpenSpec.upto inumTurnsSpec)

/-- 'ratchetlaw03.InumExtends', WHERE WHAT IT READS IS OF BULK AT MOST 1048576: true; the input reads as it did. -/
def inumExtendsUptoRow : OpenClaim := { program := "ytoegodeglgeomaadoor", sum := "b8dc203b23b466c41dcfb2fc68b38bf156d89bb04dc1e30b42e82c14d9d02238", func := "ratchet/ratchetlaw03.InumExtends", spec := "inumExtends", unfollowed := true, recurses := true, named := ["strings.asciiSpace", "unicode.White_Space", "math/bits.deBruijn64tab", "math/bits.deBruijn32tab"], apart := false, laid := [("math/bits.deBruijn32tab", laid_math_bits_deBruijn32tab), ("math/bits.deBruijn64tab", laid_math_bits_deBruijn64tab), ("unicode.White_Space", laid_unicode_White_Space), ("strings.asciiSpace", laid_strings_asciiSpace)], narrowed := true }
def InumExtendsUptoSaid : Prop := inumExtendsUptoRow.holds Tryd.pinned (OpenSpec.upto inumExtendsSpec)

end Rows
end Go.Proofs.YtoegodeglgeomaaDoor
