/-
  NARROWER THAN 'FOR EVERY INPUT', by the rows' own cells (each row's printed sentence says how): StackRefused: laid · VrefDead: loops, laid · VrefAhead: loops, laid · VrefCasts: laid · VnumOps: laid · VnumAhead: loops, laid · VnumDead: loops, laid · VnumSteps: loops, laid.
  DERIVED. THE GIVEN ROWS OF THIS SEAT. 8 by the template 'for every input the law returns true; each argument reads behind the call as it read before'; 0 by the template 'total and deterministic' (their statements: YtomdfaelgcefdaaGreatDoorTotals.lean).
  GIVEN WITH THE SEED: the statements are not yours to turn. If you find one false, say at which input.
  Laid BY PROGRAM, IN A SANDBOX (cutbox-rows.mjs): the forced cells as the released guide's own fill.sh prints them over the translation 653dff610592605c… (all of the seat's roots in one cut). By AI agents, Wed Nov 11 2026. No macro, syntax, notation, axiom, sorry.
-/
import Derived.Test.YtomdfaelgcefdaaGreatDoorChecked
import GoSem.Claim
import GoSem.ClaimJoined
import GoSem.ClaimMapViews
import Derived.JoinedTies
import Derived.KernelRfl
namespace Go.Proofs.YtomdfaelgcefdaaGreatDoor
/- THE CELL 'sum', in the pinned program and in every row, IS THE sha256 OF THE DUMP (.gsa) THAT YtomdfaelgcefdaaGreatDoorProg.lean LOADS. Nothing in Lean hashes anything: it is a label: what it is worth is what the hold of that sum in a sandbox is worth. -/
noncomputable def Tryz.pinned : Pinned := { name := "ytomdfaelgcefdaagreatdoor", sum := "653dff610592605cde906ca0694a6ce763968601cfe96a91be5e6e5bc48cc2db", checked := Tryz.checked }
namespace Rows
def none {H : Type} : Left H := { results := [], args := [] }

/- WHAT THE LISTED PACKAGE-LEVEL VARIABLES READ AS WHEN THE CALL BEGINS. Each datum BY PROGRAM (the guide's laid-datum.mjs) off the statement by which the dump's own 'gosem.cut.vars' lays the variable. In a bare row this is a premise. The card (YtomdfaelgcefdaaGreatDoorCards.lean) ties it to the program's text. -/
def laid_math_bits_deBruijn32tab {H : Type} : DataW H := .agg [.lit (.int .u8 0), .lit (.int .u8 1), .lit (.int .u8 28), .lit (.int .u8 2), .lit (.int .u8 29), .lit (.int .u8 14), .lit (.int .u8 24), .lit (.int .u8 3), .lit (.int .u8 30), .lit (.int .u8 22), .lit (.int .u8 20), .lit (.int .u8 15), .lit (.int .u8 25), .lit (.int .u8 17), .lit (.int .u8 4), .lit (.int .u8 8), .lit (.int .u8 31), .lit (.int .u8 27), .lit (.int .u8 13), .lit (.int .u8 23), .lit (.int .u8 21), .lit (.int .u8 19), .lit (.int .u8 16), .lit (.int .u8 7), .lit (.int .u8 26), .lit (.int .u8 12), .lit (.int .u8 18), .lit (.int .u8 6), .lit (.int .u8 11), .lit (.int .u8 5), .lit (.int .u8 10), .lit (.int .u8 9)]
def laid_math_bits_deBruijn64tab {H : Type} : DataW H := .agg [.lit (.int .u8 0), .lit (.int .u8 1), .lit (.int .u8 56), .lit (.int .u8 2), .lit (.int .u8 57), .lit (.int .u8 49), .lit (.int .u8 28), .lit (.int .u8 3), .lit (.int .u8 61), .lit (.int .u8 58), .lit (.int .u8 42), .lit (.int .u8 50), .lit (.int .u8 38), .lit (.int .u8 29), .lit (.int .u8 17), .lit (.int .u8 4), .lit (.int .u8 62), .lit (.int .u8 47), .lit (.int .u8 59), .lit (.int .u8 36), .lit (.int .u8 45), .lit (.int .u8 43), .lit (.int .u8 51), .lit (.int .u8 22), .lit (.int .u8 53), .lit (.int .u8 39), .lit (.int .u8 33), .lit (.int .u8 30), .lit (.int .u8 24), .lit (.int .u8 18), .lit (.int .u8 12), .lit (.int .u8 5), .lit (.int .u8 63), .lit (.int .u8 55), .lit (.int .u8 48), .lit (.int .u8 27), .lit (.int .u8 60), .lit (.int .u8 41), .lit (.int .u8 37), .lit (.int .u8 16), .lit (.int .u8 46), .lit (.int .u8 35), .lit (.int .u8 44), .lit (.int .u8 21), .lit (.int .u8 52), .lit (.int .u8 32), .lit (.int .u8 23), .lit (.int .u8 11), .lit (.int .u8 54), .lit (.int .u8 26), .lit (.int .u8 40), .lit (.int .u8 15), .lit (.int .u8 34), .lit (.int .u8 20), .lit (.int .u8 31), .lit (.int .u8 10), .lit (.int .u8 25), .lit (.int .u8 14), .lit (.int .u8 19), .lit (.int .u8 9), .lit (.int .u8 13), .lit (.int .u8 8), .lit (.int .u8 7), .lit (.int .u8 6)]
def laid_internal_strconv_uint64pow10 {H : Type} : DataW H := .agg [.lit (.int .u64 1), .lit (.int .u64 10), .lit (.int .u64 100), .lit (.int .u64 1000), .lit (.int .u64 10000), .lit (.int .u64 100000), .lit (.int .u64 1000000), .lit (.int .u64 10000000), .lit (.int .u64 100000000), .lit (.int .u64 1000000000), .lit (.int .u64 10000000000), .lit (.int .u64 100000000000), .lit (.int .u64 1000000000000), .lit (.int .u64 10000000000000), .lit (.int .u64 100000000000000), .lit (.int .u64 1000000000000000), .lit (.int .u64 10000000000000000), .lit (.int .u64 100000000000000000), .lit (.int .u64 1000000000000000000), .lit (.int .u64 10000000000000000000)]
def laid_strconv_ErrRange {H : Type} : DataW H := .iface "*errors.errorString" (.ptr (.agg [.lit (.string [118, 97, 108, 117, 101, 32, 111, 117, 116, 32, 111, 102, 32, 114, 97, 110, 103, 101])]))
def laid_strconv_ErrSyntax {H : Type} : DataW H := .iface "*errors.errorString" (.ptr (.agg [.lit (.string [105, 110, 118, 97, 108, 105, 100, 32, 115, 121, 110, 116, 97, 120])]))

/-- 'ratchetlaw13.StackRefused': WHATEVER THE INPUT: true; the input reads as it did. -/
def stackRefusedSpec : ChangeSpec := { name := "stackRefused", fn := fun _ => fun
  | [d1, d2, d3] => { results := [.lit (.bool true)], args := [d1, d2, d3] }
  | _ => none }
def stackRefusedRow : OpenClaim := { program := "ytomdfaelgcefdaagreatdoor", sum := "653dff610592605cde906ca0694a6ce763968601cfe96a91be5e6e5bc48cc2db", func := "ratchet/ratchetlaw13.StackRefused", spec := "stackRefused", unfollowed := true, recurses := true, named := ["internal/strconv.uint64pow10", "math/bits.deBruijn32tab", "math/bits.deBruijn64tab"], apart := false, laid := [("math/bits.deBruijn32tab", laid_math_bits_deBruijn32tab), ("math/bits.deBruijn64tab", laid_math_bits_deBruijn64tab), ("internal/strconv.uint64pow10", laid_internal_strconv_uint64pow10)] }
def StackRefusedSaid : Prop := stackRefusedRow.holds Tryz.pinned (OpenSpec.ofChange stackRefusedSpec)

/-- ITS FALSE NEIGHBOUR: 'it returns false'. Refute it at one input. -/
def stackRefusedWrong : ChangeSpec := { name := "stackRefused", fn := fun _ => fun
  | [d1, d2, d3] => { results := [.lit (.bool false)], args := [d1, d2, d3] }
  | _ => none }
def StackRefusedWrongFalsely : Prop := stackRefusedRow.holds Tryz.pinned (OpenSpec.ofChange stackRefusedWrong)

/-- 'ratchetlaw16.VrefDead': WHATEVER THE INPUT: true; the input reads as it did. -/
def vrefDeadSpec : ChangeSpec := { name := "vrefDead", fn := fun _ => fun
  | [d1, d2] => { results := [.lit (.bool true)], args := [d1, d2] }
  | _ => none }
def vrefDeadRow : OpenClaim := { program := "ytomdfaelgcefdaagreatdoor", sum := "653dff610592605cde906ca0694a6ce763968601cfe96a91be5e6e5bc48cc2db", func := "ratchet/ratchetlaw16.VrefDead", spec := "vrefDead", unfollowed := true, recurses := true, named := ["internal/strconv.uint64pow10", "math/bits.deBruijn32tab", "math/bits.deBruijn64tab"], loops := true, apart := false, laid := [("math/bits.deBruijn32tab", laid_math_bits_deBruijn32tab), ("math/bits.deBruijn64tab", laid_math_bits_deBruijn64tab), ("internal/strconv.uint64pow10", laid_internal_strconv_uint64pow10)] }
def VrefDeadSaid : Prop := vrefDeadRow.holds Tryz.pinned (OpenSpec.ofChange vrefDeadSpec)

/-- ITS FALSE NEIGHBOUR: 'it returns false'. Refute it at one input. -/
def vrefDeadWrong : ChangeSpec := { name := "vrefDead", fn := fun _ => fun
  | [d1, d2] => { results := [.lit (.bool false)], args := [d1, d2] }
  | _ => none }
def VrefDeadWrongFalsely : Prop := vrefDeadRow.holds Tryz.pinned (OpenSpec.ofChange vrefDeadWrong)

/-- 'ratchetlaw16.VrefAhead': WHATEVER THE INPUT: true; the input reads as it did. -/
def vrefAheadSpec : ChangeSpec := { name := "vrefAhead", fn := fun _ => fun
  | [d1, d2, d3] => { results := [.lit (.bool true)], args := [d1, d2, d3] }
  | _ => none }
def vrefAheadRow : OpenClaim := { program := "ytomdfaelgcefdaagreatdoor", sum := "653dff610592605cde906ca0694a6ce763968601cfe96a91be5e6e5bc48cc2db", func := "ratchet/ratchetlaw16.VrefAhead", spec := "vrefAhead", unfollowed := true, recurses := true, named := ["internal/strconv.uint64pow10", "math/bits.deBruijn32tab", "math/bits.deBruijn64tab"], loops := true, apart := false, laid := [("math/bits.deBruijn32tab", laid_math_bits_deBruijn32tab), ("math/bits.deBruijn64tab", laid_math_bits_deBruijn64tab), ("internal/strconv.uint64pow10", laid_internal_strconv_uint64pow10)] }
def VrefAheadSaid : Prop := vrefAheadRow.holds Tryz.pinned (OpenSpec.ofChange vrefAheadSpec)

/-- ITS FALSE NEIGHBOUR: 'it returns false'. Refute it at one input. -/
def vrefAheadWrong : ChangeSpec := { name := "vrefAhead", fn := fun _ => fun
  | [d1, d2, d3] => { results := [.lit (.bool false)], args := [d1, d2, d3] }
  | _ => none }
def VrefAheadWrongFalsely : Prop := vrefAheadRow.holds Tryz.pinned (OpenSpec.ofChange vrefAheadWrong)

/-- 'ratchetlaw16.VrefCasts': WHATEVER THE INPUT: true; the input reads as it did. -/
def vrefCastsSpec : ChangeSpec := { name := "vrefCasts", fn := fun _ => fun
  | [d1, d2] => { results := [.lit (.bool true)], args := [d1, d2] }
  | _ => none }
def vrefCastsRow : OpenClaim := { program := "ytomdfaelgcefdaagreatdoor", sum := "653dff610592605cde906ca0694a6ce763968601cfe96a91be5e6e5bc48cc2db", func := "ratchet/ratchetlaw16.VrefCasts", spec := "vrefCasts", unfollowed := true, recurses := true, named := ["internal/strconv.uint64pow10", "math/bits.deBruijn32tab", "math/bits.deBruijn64tab"], apart := false, laid := [("math/bits.deBruijn32tab", laid_math_bits_deBruijn32tab), ("math/bits.deBruijn64tab", laid_math_bits_deBruijn64tab), ("internal/strconv.uint64pow10", laid_internal_strconv_uint64pow10)] }
def VrefCastsSaid : Prop := vrefCastsRow.holds Tryz.pinned (OpenSpec.ofChange vrefCastsSpec)

/-- ITS FALSE NEIGHBOUR: 'it returns false'. Refute it at one input. -/
def vrefCastsWrong : ChangeSpec := { name := "vrefCasts", fn := fun _ => fun
  | [d1, d2] => { results := [.lit (.bool false)], args := [d1, d2] }
  | _ => none }
def VrefCastsWrongFalsely : Prop := vrefCastsRow.holds Tryz.pinned (OpenSpec.ofChange vrefCastsWrong)

/-- 'ratchetlaw14.VnumOps': WHATEVER THE INPUT: true; the input reads as it did. -/
def vnumOpsSpec : ChangeSpec := { name := "vnumOps", fn := fun _ => fun
  | [d1, d2, d3] => { results := [.lit (.bool true)], args := [d1, d2, d3] }
  | _ => none }
def vnumOpsRow : OpenClaim := { program := "ytomdfaelgcefdaagreatdoor", sum := "653dff610592605cde906ca0694a6ce763968601cfe96a91be5e6e5bc48cc2db", func := "ratchet/ratchetlaw14.VnumOps", spec := "vnumOps", inPlace := ["internal/bytealg.IndexByteString", "internal/bytealg.IndexString"], unfollowed := true, recurses := true, named := ["internal/bytealg.MaxLen", "internal/strconv.uint64pow10", "math/bits.deBruijn32tab", "math/bits.deBruijn64tab", "strconv.ErrSyntax", "strconv.ErrRange"], apart := false, laid := [("math/bits.deBruijn32tab", laid_math_bits_deBruijn32tab), ("math/bits.deBruijn64tab", laid_math_bits_deBruijn64tab), ("internal/strconv.uint64pow10", laid_internal_strconv_uint64pow10), ("strconv.ErrRange", laid_strconv_ErrRange), ("strconv.ErrSyntax", laid_strconv_ErrSyntax)] }
def VnumOpsSaid : Prop := vnumOpsRow.holds Tryz.pinned (OpenSpec.ofChange vnumOpsSpec)

/-- ITS FALSE NEIGHBOUR: 'it returns false'. Refute it at one input. -/
def vnumOpsWrong : ChangeSpec := { name := "vnumOps", fn := fun _ => fun
  | [d1, d2, d3] => { results := [.lit (.bool false)], args := [d1, d2, d3] }
  | _ => none }
def VnumOpsWrongFalsely : Prop := vnumOpsRow.holds Tryz.pinned (OpenSpec.ofChange vnumOpsWrong)

/-- 'ratchetlaw14.VnumAhead': WHATEVER THE INPUT: true; the input reads as it did. -/
def vnumAheadSpec : ChangeSpec := { name := "vnumAhead", fn := fun _ => fun
  | [d1, d2, d3] => { results := [.lit (.bool true)], args := [d1, d2, d3] }
  | _ => none }
def vnumAheadRow : OpenClaim := { program := "ytomdfaelgcefdaagreatdoor", sum := "653dff610592605cde906ca0694a6ce763968601cfe96a91be5e6e5bc48cc2db", func := "ratchet/ratchetlaw14.VnumAhead", spec := "vnumAhead", inPlace := ["internal/bytealg.IndexByteString", "internal/bytealg.IndexString"], unfollowed := true, recurses := true, named := ["internal/strconv.uint64pow10", "math/bits.deBruijn32tab", "math/bits.deBruijn64tab", "internal/bytealg.MaxLen", "strconv.ErrSyntax", "strconv.ErrRange"], loops := true, apart := false, laid := [("math/bits.deBruijn32tab", laid_math_bits_deBruijn32tab), ("math/bits.deBruijn64tab", laid_math_bits_deBruijn64tab), ("internal/strconv.uint64pow10", laid_internal_strconv_uint64pow10), ("strconv.ErrRange", laid_strconv_ErrRange), ("strconv.ErrSyntax", laid_strconv_ErrSyntax)] }
def VnumAheadSaid : Prop := vnumAheadRow.holds Tryz.pinned (OpenSpec.ofChange vnumAheadSpec)

/-- ITS FALSE NEIGHBOUR: 'it returns false'. Refute it at one input. -/
def vnumAheadWrong : ChangeSpec := { name := "vnumAhead", fn := fun _ => fun
  | [d1, d2, d3] => { results := [.lit (.bool false)], args := [d1, d2, d3] }
  | _ => none }
def VnumAheadWrongFalsely : Prop := vnumAheadRow.holds Tryz.pinned (OpenSpec.ofChange vnumAheadWrong)

/-- 'ratchetlaw14.VnumDead': WHATEVER THE INPUT: true; the input reads as it did. -/
def vnumDeadSpec : ChangeSpec := { name := "vnumDead", fn := fun _ => fun
  | [d1, d2] => { results := [.lit (.bool true)], args := [d1, d2] }
  | _ => none }
def vnumDeadRow : OpenClaim := { program := "ytomdfaelgcefdaagreatdoor", sum := "653dff610592605cde906ca0694a6ce763968601cfe96a91be5e6e5bc48cc2db", func := "ratchet/ratchetlaw14.VnumDead", spec := "vnumDead", inPlace := ["internal/bytealg.IndexByteString", "internal/bytealg.IndexString"], unfollowed := true, recurses := true, named := ["internal/strconv.uint64pow10", "math/bits.deBruijn32tab", "math/bits.deBruijn64tab", "internal/bytealg.MaxLen", "strconv.ErrSyntax", "strconv.ErrRange"], loops := true, apart := false, laid := [("math/bits.deBruijn32tab", laid_math_bits_deBruijn32tab), ("math/bits.deBruijn64tab", laid_math_bits_deBruijn64tab), ("internal/strconv.uint64pow10", laid_internal_strconv_uint64pow10), ("strconv.ErrRange", laid_strconv_ErrRange), ("strconv.ErrSyntax", laid_strconv_ErrSyntax)] }
def VnumDeadSaid : Prop := vnumDeadRow.holds Tryz.pinned (OpenSpec.ofChange vnumDeadSpec)

/-- ITS FALSE NEIGHBOUR: 'it returns false'. Refute it at one input. -/
def vnumDeadWrong : ChangeSpec := { name := "vnumDead", fn := fun _ => fun
  | [d1, d2] => { results := [.lit (.bool false)], args := [d1, d2] }
  | _ => none }
def VnumDeadWrongFalsely : Prop := vnumDeadRow.holds Tryz.pinned (OpenSpec.ofChange vnumDeadWrong)

/-- 'ratchetlaw14.VnumSteps': WHATEVER THE INPUT: true; the input reads as it did. -/
def vnumStepsSpec : ChangeSpec := { name := "vnumSteps", fn := fun _ => fun
  | [d1, d2] => { results := [.lit (.bool true)], args := [d1, d2] }
  | _ => none }
def vnumStepsRow : OpenClaim := { program := "ytomdfaelgcefdaagreatdoor", sum := "653dff610592605cde906ca0694a6ce763968601cfe96a91be5e6e5bc48cc2db", func := "ratchet/ratchetlaw14.VnumSteps", spec := "vnumSteps", inPlace := ["internal/bytealg.IndexByteString", "internal/bytealg.IndexString"], unfollowed := true, recurses := true, named := ["internal/strconv.uint64pow10", "math/bits.deBruijn32tab", "math/bits.deBruijn64tab", "internal/bytealg.MaxLen", "strconv.ErrSyntax", "strconv.ErrRange"], loops := true, apart := false, laid := [("math/bits.deBruijn32tab", laid_math_bits_deBruijn32tab), ("math/bits.deBruijn64tab", laid_math_bits_deBruijn64tab), ("internal/strconv.uint64pow10", laid_internal_strconv_uint64pow10), ("strconv.ErrRange", laid_strconv_ErrRange), ("strconv.ErrSyntax", laid_strconv_ErrSyntax)] }
def VnumStepsSaid : Prop := vnumStepsRow.holds Tryz.pinned (OpenSpec.ofChange vnumStepsSpec)

/-- ITS FALSE NEIGHBOUR: 'it returns false'. Refute it at one input. -/
def vnumStepsWrong : ChangeSpec := { name := "vnumSteps", fn := fun _ => fun
  | [d1, d2] => { results := [.lit (.bool false)], args := [d1, d2] }
  | _ => none }
def VnumStepsWrongFalsely : Prop := vnumStepsRow.holds Tryz.pinned (OpenSpec.ofChange vnumStepsWrong)

/- THE SECOND FORM. 'bulk': how many values and letters a reading holds, each counted each time it is reached (what is shared counts as often as it is met; a slice's spare places count too). A statement '..UptoSaid' is the law's where the arguments, and the package variables that the reading takes, are together of bulk at most 1048576: NARROWER than '..Said'. Prove '..Said' where nothing that the law and all that it calls make is longer than what came in: it says more and counts as full. Else prove '..UptoSaid'. A law counts once. -/
mutual
def uptoBulk {H : Type} : DataW H → Nat
  | .lit (.string bytes) => bytes.length + 1
  | .lit _ => 1
  | .nil => 1
  | .ptr d => uptoBulk d + 1
  | .slice elems spare => uptoBulkAll elems + uptoBulkAll spare + 1
  | .agg parts => uptoBulkAll parts + 1
  | .iface _ d => uptoBulk d + 1
  | .map entries => uptoBulkEntries entries + 1
  | .held _ => 1
def uptoBulkAll {H : Type} : List (DataW H) → Nat
  | [] => 0
  | d :: r => uptoBulk d + uptoBulkAll r
def uptoBulkEntries {H : Type} : List (Lit × DataW H) → Nat
  | [] => 0
  | x :: r => uptoBulkEntry x + uptoBulkEntries r
def uptoBulkEntry {H : Type} : Lit × DataW H → Nat
  | (.string bytes, d) => bytes.length + uptoBulk d + 1
  | (_, d) => uptoBulk d + 1
 end
def uptoSmall : (H : Type) → List (DataW H) → Bool := fun _ ds => decide (uptoBulkAll ds ≤ 1048576)
def OpenSpec.upto (s : _root_.Go.ChangeSpec) : _root_.Go.OpenSpec := { _root_.Go.OpenSpec.ofChange s with cond := some uptoSmall }

/-- 'ratchetlaw13.StackRefused', WHERE WHAT IT READS IS OF BULK AT MOST 1048576: true; the input reads as it did. -/
def stackRefusedUptoRow : OpenClaim := { program := "ytomdfaelgcefdaagreatdoor", sum := "653dff610592605cde906ca0694a6ce763968601cfe96a91be5e6e5bc48cc2db", func := "ratchet/ratchetlaw13.StackRefused", spec := "stackRefused", unfollowed := true, recurses := true, named := ["internal/strconv.uint64pow10", "math/bits.deBruijn32tab", "math/bits.deBruijn64tab"], apart := false, laid := [("math/bits.deBruijn32tab", laid_math_bits_deBruijn32tab), ("math/bits.deBruijn64tab", laid_math_bits_deBruijn64tab), ("internal/strconv.uint64pow10", laid_internal_strconv_uint64pow10)], narrowed := true }
def StackRefusedUptoSaid : Prop := stackRefusedUptoRow.holds Tryz.pinned (OpenSpec.upto stackRefusedSpec)

/-- 'ratchetlaw16.VrefDead', WHERE WHAT IT READS IS OF BULK AT MOST 1048576: true; the input reads as it did. -/
def vrefDeadUptoRow : OpenClaim := { program := "ytomdfaelgcefdaagreatdoor", sum := "653dff610592605cde906ca0694a6ce763968601cfe96a91be5e6e5bc48cc2db", func := "ratchet/ratchetlaw16.VrefDead", spec := "vrefDead", unfollowed := true, recurses := true, named := ["internal/strconv.uint64pow10", "math/bits.deBruijn32tab", "math/bits.deBruijn64tab"], loops := true, apart := false, laid := [("math/bits.deBruijn32tab", laid_math_bits_deBruijn32tab), ("math/bits.deBruijn64tab", laid_math_bits_deBruijn64tab), ("internal/strconv.uint64pow10", laid_internal_strconv_uint64pow10)], narrowed := true }
def VrefDeadUptoSaid : Prop := vrefDeadUptoRow.holds Tryz.pinned (OpenSpec.upto vrefDeadSpec)

/-- 'ratchetlaw16.VrefAhead', WHERE WHAT IT READS IS OF BULK AT MOST 1048576: true; the input reads as it did. -/
def vrefAheadUptoRow : OpenClaim := { program := "ytomdfaelgcefdaagreatdoor", sum := "653dff610592605cde906ca0694a6ce763968601cfe96a91be5e6e5bc48cc2db", func := "ratchet/ratchetlaw16.VrefAhead", spec := "vrefAhead", unfollowed := true, recurses := true, named := ["internal/strconv.uint64pow10", "math/bits.deBruijn32tab", "math/bits.deBruijn64tab"], loops := true, apart := false, laid := [("math/bits.deBruijn32tab", laid_math_bits_deBruijn32tab), ("math/bits.deBruijn64tab", laid_math_bits_deBruijn64tab), ("internal/strconv.uint64pow10", laid_internal_strconv_uint64pow10)], narrowed := true }
def VrefAheadUptoSaid : Prop := vrefAheadUptoRow.holds Tryz.pinned (OpenSpec.upto vrefAheadSpec)

/-- 'ratchetlaw16.VrefCasts', WHERE WHAT IT READS IS OF BULK AT MOST 1048576: true; the input reads as it did. -/
def vrefCastsUptoRow : OpenClaim := { program := "ytomdfaelgcefdaagreatdoor", sum := "653dff610592605cde906ca0694a6ce763968601cfe96a91be5e6e5bc48cc2db", func := "ratchet/ratchetlaw16.VrefCasts", spec := "vrefCasts", unfollowed := true, recurses := true, named := ["internal/strconv.uint64pow10", "math/bits.deBruijn32tab", "math/bits.deBruijn64tab"], apart := false, laid := [("math/bits.deBruijn32tab", laid_math_bits_deBruijn32tab), ("math/bits.deBruijn64tab", laid_math_bits_deBruijn64tab), ("internal/strconv.uint64pow10", laid_internal_strconv_uint64pow10)], narrowed := true }
def VrefCastsUptoSaid : Prop := vrefCastsUptoRow.holds Tryz.pinned (OpenSpec.upto vrefCastsSpec)

/-- 'ratchetlaw14.VnumOps', WHERE WHAT IT READS IS OF BULK AT MOST 1048576: true; the input reads as it did. -/
def vnumOpsUptoRow : OpenClaim := { program := "ytomdfaelgcefdaagreatdoor", sum := "653dff610592605cde906ca0694a6ce763968601cfe96a91be5e6e5bc48cc2db", func := "ratchet/ratchetlaw14.VnumOps", spec := "vnumOps", inPlace := ["internal/bytealg.IndexByteString", "internal/bytealg.IndexString"], unfollowed := true, recurses := true, named := ["internal/bytealg.MaxLen", "internal/strconv.uint64pow10", "math/bits.deBruijn32tab", "math/bits.deBruijn64tab", "strconv.ErrSyntax", "strconv.ErrRange"], apart := false, laid := [("math/bits.deBruijn32tab", laid_math_bits_deBruijn32tab), ("math/bits.deBruijn64tab", laid_math_bits_deBruijn64tab), ("internal/strconv.uint64pow10", laid_internal_strconv_uint64pow10), ("strconv.ErrRange", laid_strconv_ErrRange), ("strconv.ErrSyntax", laid_strconv_ErrSyntax)], narrowed := true }
def VnumOpsUptoSaid : Prop := vnumOpsUptoRow.holds Tryz.pinned (OpenSpec.upto vnumOpsSpec)

/-- 'ratchetlaw14.VnumAhead', WHERE WHAT IT READS IS OF BULK AT MOST 1048576: true; the input reads as it did. -/
def vnumAheadUptoRow : OpenClaim := { program := "ytomdfaelgcefdaagreatdoor", sum := "653dff610592605cde906ca0694a6ce763968601cfe96a91be5e6e5bc48cc2db", func := "ratchet/ratchetlaw14.VnumAhead", spec := "vnumAhead", inPlace := ["internal/bytealg.IndexByteString", "internal/bytealg.IndexString"], unfollowed := true, recurses := true, named := ["internal/strconv.uint64pow10", "math/bits.deBruijn32tab", "math/bits.deBruijn64tab", "internal/bytealg.MaxLen", "strconv.ErrSyntax", "strconv.ErrRange"], loops := true, apart := false, laid := [("math/bits.deBruijn32tab", laid_math_bits_deBruijn32tab), ("math/bits.deBruijn64tab", laid_math_bits_deBruijn64tab), ("internal/strconv.uint64pow10", laid_internal_strconv_uint64pow10), ("strconv.ErrRange", laid_strconv_ErrRange), ("strconv.ErrSyntax", laid_strconv_ErrSyntax)], narrowed := true }
def VnumAheadUptoSaid : Prop := vnumAheadUptoRow.holds Tryz.pinned (OpenSpec.upto vnumAheadSpec)

/-- 'ratchetlaw14.VnumDead', WHERE WHAT IT READS IS OF BULK AT MOST 1048576: true; the input reads as it did. -/
def vnumDeadUptoRow : OpenClaim := { program := "ytomdfaelgcefdaagreatdoor", sum := "653dff610592605cde906ca0694a6ce763968601cfe96a91be5e6e5bc48cc2db", func := "ratchet/ratchetlaw14.VnumDead", spec := "vnumDead", inPlace := ["internal/bytealg.IndexByteString", "internal/bytealg.IndexString"], unfollowed := true, recurses := true, named := ["internal/strconv.uint64pow10", "math/bits.deBruijn32tab", "math/bits.deBruijn64tab", "internal/bytealg.MaxLen", "strconv.ErrSyntax", "strconv.ErrRange"], loops := true, apart := false, laid := [("math/bits.deBruijn32tab", laid_math_bits_deBruijn32tab), ("math/bits.deBruijn64tab", laid_math_bits_deBruijn64tab), ("internal/strconv.uint64pow10", laid_internal_strconv_uint64pow10), ("strconv.ErrRange", laid_strconv_ErrRange), ("strconv.ErrSyntax", laid_strconv_ErrSyntax)], narrowed := true }
def VnumDeadUptoSaid : Prop := vnumDeadUptoRow.holds Tryz.pinned (OpenSpec.upto vnumDeadSpec)

/-- 'ratchetlaw14.VnumSteps', WHERE WHAT IT READS IS OF BULK AT MOST 1048576: true; the input reads as it did. -/
def vnumStepsUptoRow : OpenClaim := { program := "ytomdfaelgcefdaagreatdoor", sum := "653dff610592605cde906ca0694a6ce763968601cfe96a91be5e6e5bc48cc2db", func := "ratchet/ratchetlaw14.VnumSteps", spec := "vnumSteps", inPlace := ["internal/bytealg.IndexByteString", "internal/bytealg.IndexString"], unfollowed := true, recurses := true, named := ["internal/strconv.uint64pow10", "math/bits.deBruijn32tab", "math/bits.deBruijn64tab", "internal/bytealg.MaxLen", "strconv.ErrSyntax", "strconv.ErrRange"], loops := true, apart := false, laid := [("math/bits.deBruijn32tab", laid_math_bits_deBruijn32tab), ("math/bits.deBruijn64tab", laid_math_bits_deBruijn64tab), ("internal/strconv.uint64pow10", laid_internal_strconv_uint64pow10), ("strconv.ErrRange", laid_strconv_ErrRange), ("strconv.ErrSyntax", laid_strconv_ErrSyntax)], narrowed := true }
def VnumStepsUptoSaid : Prop := vnumStepsUptoRow.holds Tryz.pinned (OpenSpec.upto vnumStepsSpec)

end Rows
end Go.Proofs.YtomdfaelgcefdaaGreatDoor
