/-
  NARROWER THAN 'FOR EVERY INPUT', by the rows' own cells (each row's printed sentence says how): ElabTells: loops, laid · ElabMeets: loops, laid · ElabNames: loops, laid · ElabWell: laid · ElabRefuses: laid · ElabBare: loops, laid · EvalShaped: loops, laid.
  DERIVED. THE GIVEN ROWS OF THIS SEAT. 7 by the template 'for every input the law returns true; each argument reads behind the call as it read before'; 0 by the template 'total and deterministic' (their statements: YthnhddjlgjecdaaGreatDoorTotals.lean).
  GIVEN WITH THE SEED: the statements are not yours to turn. If you find one false, say at which input.
  Laid BY PROGRAM, IN A SANDBOX (cutbox-rows.mjs): the forced cells as the released guide's own fill.sh prints them over the translation e31e4bc29a53a702… (all of the seat's roots in one cut). By AI agents, Wed Nov 11 2026. No macro, syntax, notation, axiom, sorry.
-/
import Derived.Test.YthnhddjlgjecdaaGreatDoorChecked
import GoSem.Claim
import GoSem.ClaimJoined
import GoSem.ClaimMapViews
import Derived.JoinedTies
import Derived.KernelRfl
namespace Go.Proofs.YthnhddjlgjecdaaGreatDoor
/- THE CELL 'sum', in the pinned program and in every row, IS THE sha256 OF THE DUMP (.gsa) THAT YthnhddjlgjecdaaGreatDoorProg.lean LOADS. Nothing in Lean hashes anything: it is a label: what it is worth is what the hold of that sum in a sandbox is worth. -/
noncomputable def Tryz.pinned : Pinned := { name := "ythnhddjlgjecdaagreatdoor", sum := "e31e4bc29a53a702b59111a77ca6375634da3c19692667d6874ec9931ee12d30", checked := Tryz.checked }
namespace Rows
def none {H : Type} : Left H := { results := [], args := [] }

/- WHAT THE LISTED PACKAGE-LEVEL VARIABLES READ AS WHEN THE CALL BEGINS. Each datum BY PROGRAM (the guide's laid-datum.mjs) off the statement by which the dump's own 'gosem.cut.vars' lays the variable. In a bare row this is a premise. The card (YthnhddjlgjecdaaGreatDoorCards.lean) ties it to the program's text. -/
def laid_math_bits_deBruijn32tab {H : Type} : DataW H := .agg [.lit (.int .u8 0), .lit (.int .u8 1), .lit (.int .u8 28), .lit (.int .u8 2), .lit (.int .u8 29), .lit (.int .u8 14), .lit (.int .u8 24), .lit (.int .u8 3), .lit (.int .u8 30), .lit (.int .u8 22), .lit (.int .u8 20), .lit (.int .u8 15), .lit (.int .u8 25), .lit (.int .u8 17), .lit (.int .u8 4), .lit (.int .u8 8), .lit (.int .u8 31), .lit (.int .u8 27), .lit (.int .u8 13), .lit (.int .u8 23), .lit (.int .u8 21), .lit (.int .u8 19), .lit (.int .u8 16), .lit (.int .u8 7), .lit (.int .u8 26), .lit (.int .u8 12), .lit (.int .u8 18), .lit (.int .u8 6), .lit (.int .u8 11), .lit (.int .u8 5), .lit (.int .u8 10), .lit (.int .u8 9)]
def laid_math_bits_deBruijn64tab {H : Type} : DataW H := .agg [.lit (.int .u8 0), .lit (.int .u8 1), .lit (.int .u8 56), .lit (.int .u8 2), .lit (.int .u8 57), .lit (.int .u8 49), .lit (.int .u8 28), .lit (.int .u8 3), .lit (.int .u8 61), .lit (.int .u8 58), .lit (.int .u8 42), .lit (.int .u8 50), .lit (.int .u8 38), .lit (.int .u8 29), .lit (.int .u8 17), .lit (.int .u8 4), .lit (.int .u8 62), .lit (.int .u8 47), .lit (.int .u8 59), .lit (.int .u8 36), .lit (.int .u8 45), .lit (.int .u8 43), .lit (.int .u8 51), .lit (.int .u8 22), .lit (.int .u8 53), .lit (.int .u8 39), .lit (.int .u8 33), .lit (.int .u8 30), .lit (.int .u8 24), .lit (.int .u8 18), .lit (.int .u8 12), .lit (.int .u8 5), .lit (.int .u8 63), .lit (.int .u8 55), .lit (.int .u8 48), .lit (.int .u8 27), .lit (.int .u8 60), .lit (.int .u8 41), .lit (.int .u8 37), .lit (.int .u8 16), .lit (.int .u8 46), .lit (.int .u8 35), .lit (.int .u8 44), .lit (.int .u8 21), .lit (.int .u8 52), .lit (.int .u8 32), .lit (.int .u8 23), .lit (.int .u8 11), .lit (.int .u8 54), .lit (.int .u8 26), .lit (.int .u8 40), .lit (.int .u8 15), .lit (.int .u8 34), .lit (.int .u8 20), .lit (.int .u8 31), .lit (.int .u8 10), .lit (.int .u8 25), .lit (.int .u8 14), .lit (.int .u8 19), .lit (.int .u8 9), .lit (.int .u8 13), .lit (.int .u8 8), .lit (.int .u8 7), .lit (.int .u8 6)]
def laid_internal_strconv_uint64pow10 {H : Type} : DataW H := .agg [.lit (.int .u64 1), .lit (.int .u64 10), .lit (.int .u64 100), .lit (.int .u64 1000), .lit (.int .u64 10000), .lit (.int .u64 100000), .lit (.int .u64 1000000), .lit (.int .u64 10000000), .lit (.int .u64 100000000), .lit (.int .u64 1000000000), .lit (.int .u64 10000000000), .lit (.int .u64 100000000000), .lit (.int .u64 1000000000000), .lit (.int .u64 10000000000000), .lit (.int .u64 100000000000000), .lit (.int .u64 1000000000000000), .lit (.int .u64 10000000000000000), .lit (.int .u64 100000000000000000), .lit (.int .u64 1000000000000000000), .lit (.int .u64 10000000000000000000)]
def laid_chancel_lex_keys {H : Type} : DataW H := .agg [.lit (.string [102, 117, 110]), .lit (.string [108, 101, 116]), .lit (.string [105, 110]), .lit (.string [105, 102]), .lit (.string [116, 104, 101, 110]), .lit (.string [101, 108, 115, 101]), .lit (.string [119, 104, 105, 108, 101]), .lit (.string [100, 111]), .lit (.string [114, 97, 105, 115, 101]), .lit (.string [116, 114, 121]), .lit (.string [119, 105, 116, 104]), .lit (.string [105, 110, 112, 117, 116]), .lit (.string [99, 101, 108, 108]), .lit (.string [100, 101, 102])]
def laid_chancel_term_kids {H : Type} : DataW H := .agg [.lit (.int .i64 (-1)), .lit (.int .i64 0), .lit (.int .i64 0), .lit (.int .i64 1), .lit (.int .i64 2), .lit (.int .i64 2), .lit (.int .i64 3), .lit (.int .i64 2), .lit (.int .i64 1), .lit (.int .i64 2), .lit (.int .i64 1), .lit (.int .i64 2), .lit (.int .i64 2), .lit (.int .i64 2)]
def laid_chancel_term_ops {H : Type} : DataW H := .agg [.lit (.string [43]), .lit (.string [45]), .lit (.string [42]), .lit (.string [60]), .lit (.string [61])]
def laid_chancel_eval_kids {H : Type} : DataW H := .agg [.lit (.int .i64 (-1)), .lit (.int .i64 0), .lit (.int .i64 0), .lit (.int .i64 1), .lit (.int .i64 2), .lit (.int .i64 2), .lit (.int .i64 3), .lit (.int .i64 2), .lit (.int .i64 1), .lit (.int .i64 2), .lit (.int .i64 1), .lit (.int .i64 2), .lit (.int .i64 2), .lit (.int .i64 2)]

/-- 'chancellaw09.ElabTells': WHATEVER THE INPUT: true; the input reads as it did. -/
def elabTellsSpec : ChangeSpec := { name := "elabTells", fn := fun _ => fun
  | [d1, d2, d3, d4, d5] => { results := [.lit (.bool true)], args := [d1, d2, d3, d4, d5] }
  | _ => none }
def elabTellsRow : OpenClaim := { program := "ythnhddjlgjecdaagreatdoor", sum := "e31e4bc29a53a702b59111a77ca6375634da3c19692667d6874ec9931ee12d30", func := "chancel/chancellaw09.ElabTells", spec := "elabTells", inPlace := ["internal/abi.NoEscape", "internal/bytealg.MakeNoZero", "slices.overlaps[chancel/shape.Bind]"], unfollowed := true, recurses := true, named := ["chancel/lex.keys", "chancel/term.kids", "chancel/term.ops", "internal/strconv.uint64pow10", "math/bits.deBruijn32tab", "math/bits.deBruijn64tab"], loops := true, apart := false, laid := [("math/bits.deBruijn32tab", laid_math_bits_deBruijn32tab), ("math/bits.deBruijn64tab", laid_math_bits_deBruijn64tab), ("internal/strconv.uint64pow10", laid_internal_strconv_uint64pow10), ("chancel/lex.keys", laid_chancel_lex_keys), ("chancel/term.kids", laid_chancel_term_kids), ("chancel/term.ops", laid_chancel_term_ops)] }
def ElabTellsSaid : Prop := elabTellsRow.holds Tryz.pinned (OpenSpec.ofChange elabTellsSpec)

/-- ITS FALSE NEIGHBOUR: 'it returns false'. Refute it at one input. -/
def elabTellsWrong : ChangeSpec := { name := "elabTells", fn := fun _ => fun
  | [d1, d2, d3, d4, d5] => { results := [.lit (.bool false)], args := [d1, d2, d3, d4, d5] }
  | _ => none }
def ElabTellsWrongFalsely : Prop := elabTellsRow.holds Tryz.pinned (OpenSpec.ofChange elabTellsWrong)

/-- 'chancellaw09.ElabMeets': WHATEVER THE INPUT: true; the input reads as it did. -/
def elabMeetsSpec : ChangeSpec := { name := "elabMeets", fn := fun _ => fun
  | [d1, d2, d3] => { results := [.lit (.bool true)], args := [d1, d2, d3] }
  | _ => none }
def elabMeetsRow : OpenClaim := { program := "ythnhddjlgjecdaagreatdoor", sum := "e31e4bc29a53a702b59111a77ca6375634da3c19692667d6874ec9931ee12d30", func := "chancel/chancellaw09.ElabMeets", spec := "elabMeets", inPlace := ["internal/abi.NoEscape", "internal/bytealg.MakeNoZero", "slices.overlaps[chancel/shape.Bind]"], unfollowed := true, recurses := true, named := ["chancel/lex.keys", "chancel/term.kids", "chancel/term.ops", "internal/strconv.uint64pow10", "math/bits.deBruijn32tab", "math/bits.deBruijn64tab"], loops := true, apart := false, laid := [("math/bits.deBruijn32tab", laid_math_bits_deBruijn32tab), ("math/bits.deBruijn64tab", laid_math_bits_deBruijn64tab), ("internal/strconv.uint64pow10", laid_internal_strconv_uint64pow10), ("chancel/lex.keys", laid_chancel_lex_keys), ("chancel/term.kids", laid_chancel_term_kids), ("chancel/term.ops", laid_chancel_term_ops)] }
def ElabMeetsSaid : Prop := elabMeetsRow.holds Tryz.pinned (OpenSpec.ofChange elabMeetsSpec)

/-- ITS FALSE NEIGHBOUR: 'it returns false'. Refute it at one input. -/
def elabMeetsWrong : ChangeSpec := { name := "elabMeets", fn := fun _ => fun
  | [d1, d2, d3] => { results := [.lit (.bool false)], args := [d1, d2, d3] }
  | _ => none }
def ElabMeetsWrongFalsely : Prop := elabMeetsRow.holds Tryz.pinned (OpenSpec.ofChange elabMeetsWrong)

/-- 'chancellaw09.ElabNames': WHATEVER THE INPUT: true; the input reads as it did. -/
def elabNamesSpec : ChangeSpec := { name := "elabNames", fn := fun _ => fun
  | [d1, d2, d3] => { results := [.lit (.bool true)], args := [d1, d2, d3] }
  | _ => none }
def elabNamesRow : OpenClaim := { program := "ythnhddjlgjecdaagreatdoor", sum := "e31e4bc29a53a702b59111a77ca6375634da3c19692667d6874ec9931ee12d30", func := "chancel/chancellaw09.ElabNames", spec := "elabNames", inPlace := ["internal/abi.NoEscape", "internal/bytealg.MakeNoZero", "slices.overlaps[chancel/shape.Bind]"], unfollowed := true, recurses := true, named := ["chancel/lex.keys", "chancel/term.kids", "chancel/term.ops", "internal/strconv.uint64pow10", "math/bits.deBruijn32tab", "math/bits.deBruijn64tab"], loops := true, apart := false, laid := [("math/bits.deBruijn32tab", laid_math_bits_deBruijn32tab), ("math/bits.deBruijn64tab", laid_math_bits_deBruijn64tab), ("internal/strconv.uint64pow10", laid_internal_strconv_uint64pow10), ("chancel/lex.keys", laid_chancel_lex_keys), ("chancel/term.kids", laid_chancel_term_kids), ("chancel/term.ops", laid_chancel_term_ops)] }
def ElabNamesSaid : Prop := elabNamesRow.holds Tryz.pinned (OpenSpec.ofChange elabNamesSpec)

/-- ITS FALSE NEIGHBOUR: 'it returns false'. Refute it at one input. -/
def elabNamesWrong : ChangeSpec := { name := "elabNames", fn := fun _ => fun
  | [d1, d2, d3] => { results := [.lit (.bool false)], args := [d1, d2, d3] }
  | _ => none }
def ElabNamesWrongFalsely : Prop := elabNamesRow.holds Tryz.pinned (OpenSpec.ofChange elabNamesWrong)

/-- 'chancellaw09.ElabWell': WHATEVER THE INPUT: true; the input reads as it did. -/
def elabWellSpec : ChangeSpec := { name := "elabWell", fn := fun _ => fun
  | [d1, d2] => { results := [.lit (.bool true)], args := [d1, d2] }
  | _ => none }
def elabWellRow : OpenClaim := { program := "ythnhddjlgjecdaagreatdoor", sum := "e31e4bc29a53a702b59111a77ca6375634da3c19692667d6874ec9931ee12d30", func := "chancel/chancellaw09.ElabWell", spec := "elabWell", inPlace := ["internal/abi.NoEscape", "internal/bytealg.MakeNoZero", "slices.overlaps[chancel/shape.Bind]"], unfollowed := true, recurses := true, named := ["chancel/lex.keys", "chancel/term.kids", "chancel/term.ops", "internal/strconv.uint64pow10", "math/bits.deBruijn32tab", "math/bits.deBruijn64tab"], apart := false, laid := [("math/bits.deBruijn32tab", laid_math_bits_deBruijn32tab), ("math/bits.deBruijn64tab", laid_math_bits_deBruijn64tab), ("internal/strconv.uint64pow10", laid_internal_strconv_uint64pow10), ("chancel/lex.keys", laid_chancel_lex_keys), ("chancel/term.kids", laid_chancel_term_kids), ("chancel/term.ops", laid_chancel_term_ops)] }
def ElabWellSaid : Prop := elabWellRow.holds Tryz.pinned (OpenSpec.ofChange elabWellSpec)

/-- ITS FALSE NEIGHBOUR: 'it returns false'. Refute it at one input. -/
def elabWellWrong : ChangeSpec := { name := "elabWell", fn := fun _ => fun
  | [d1, d2] => { results := [.lit (.bool false)], args := [d1, d2] }
  | _ => none }
def ElabWellWrongFalsely : Prop := elabWellRow.holds Tryz.pinned (OpenSpec.ofChange elabWellWrong)

/-- 'chancellaw09.ElabRefuses': WHATEVER THE INPUT: true; the input reads as it did. -/
def elabRefusesSpec : ChangeSpec := { name := "elabRefuses", fn := fun _ => fun
  | [d1, d2, d3] => { results := [.lit (.bool true)], args := [d1, d2, d3] }
  | _ => none }
def elabRefusesRow : OpenClaim := { program := "ythnhddjlgjecdaagreatdoor", sum := "e31e4bc29a53a702b59111a77ca6375634da3c19692667d6874ec9931ee12d30", func := "chancel/chancellaw09.ElabRefuses", spec := "elabRefuses", inPlace := ["internal/abi.NoEscape", "internal/bytealg.MakeNoZero", "slices.overlaps[chancel/shape.Bind]"], unfollowed := true, recurses := true, named := ["chancel/lex.keys", "chancel/term.kids", "chancel/term.ops", "internal/strconv.uint64pow10", "math/bits.deBruijn32tab", "math/bits.deBruijn64tab"], apart := false, laid := [("math/bits.deBruijn32tab", laid_math_bits_deBruijn32tab), ("math/bits.deBruijn64tab", laid_math_bits_deBruijn64tab), ("internal/strconv.uint64pow10", laid_internal_strconv_uint64pow10), ("chancel/lex.keys", laid_chancel_lex_keys), ("chancel/term.kids", laid_chancel_term_kids), ("chancel/term.ops", laid_chancel_term_ops)] }
def ElabRefusesSaid : Prop := elabRefusesRow.holds Tryz.pinned (OpenSpec.ofChange elabRefusesSpec)

/-- ITS FALSE NEIGHBOUR: 'it returns false'. Refute it at one input. -/
def elabRefusesWrong : ChangeSpec := { name := "elabRefuses", fn := fun _ => fun
  | [d1, d2, d3] => { results := [.lit (.bool false)], args := [d1, d2, d3] }
  | _ => none }
def ElabRefusesWrongFalsely : Prop := elabRefusesRow.holds Tryz.pinned (OpenSpec.ofChange elabRefusesWrong)

/-- 'chancellaw09.ElabBare': WHATEVER THE INPUT: true; the input reads as it did. -/
def elabBareSpec : ChangeSpec := { name := "elabBare", fn := fun _ => fun
  | [d1, d2, d3] => { results := [.lit (.bool true)], args := [d1, d2, d3] }
  | _ => none }
def elabBareRow : OpenClaim := { program := "ythnhddjlgjecdaagreatdoor", sum := "e31e4bc29a53a702b59111a77ca6375634da3c19692667d6874ec9931ee12d30", func := "chancel/chancellaw09.ElabBare", spec := "elabBare", inPlace := ["internal/abi.NoEscape", "internal/bytealg.MakeNoZero", "slices.overlaps[chancel/shape.Bind]"], unfollowed := true, recurses := true, named := ["chancel/lex.keys", "chancel/term.kids", "chancel/term.ops", "internal/strconv.uint64pow10", "math/bits.deBruijn32tab", "math/bits.deBruijn64tab"], loops := true, apart := false, laid := [("math/bits.deBruijn32tab", laid_math_bits_deBruijn32tab), ("math/bits.deBruijn64tab", laid_math_bits_deBruijn64tab), ("internal/strconv.uint64pow10", laid_internal_strconv_uint64pow10), ("chancel/lex.keys", laid_chancel_lex_keys), ("chancel/term.kids", laid_chancel_term_kids), ("chancel/term.ops", laid_chancel_term_ops)] }
def ElabBareSaid : Prop := elabBareRow.holds Tryz.pinned (OpenSpec.ofChange elabBareSpec)

/-- ITS FALSE NEIGHBOUR: 'it returns false'. Refute it at one input. -/
def elabBareWrong : ChangeSpec := { name := "elabBare", fn := fun _ => fun
  | [d1, d2, d3] => { results := [.lit (.bool false)], args := [d1, d2, d3] }
  | _ => none }
def ElabBareWrongFalsely : Prop := elabBareRow.holds Tryz.pinned (OpenSpec.ofChange elabBareWrong)

/-- 'chancellaw19.EvalShaped': WHATEVER THE INPUT: true; the input reads as it did. -/
def evalShapedSpec : ChangeSpec := { name := "evalShaped", fn := fun _ => fun
  | [d1, d2, d3, d4, d5] => { results := [.lit (.bool true)], args := [d1, d2, d3, d4, d5] }
  | _ => none }
def evalShapedRow : OpenClaim := { program := "ythnhddjlgjecdaagreatdoor", sum := "e31e4bc29a53a702b59111a77ca6375634da3c19692667d6874ec9931ee12d30", func := "chancel/chancellaw19.EvalShaped", spec := "evalShaped", inPlace := ["internal/abi.NoEscape", "internal/bytealg.MakeNoZero", "slices.overlaps[chancel/shape.Bind]"], unfollowed := true, recurses := true, named := ["chancel/eval.kids", "chancel/lex.keys", "chancel/term.kids", "chancel/term.ops", "internal/strconv.uint64pow10", "math/bits.deBruijn32tab", "math/bits.deBruijn64tab"], loops := true, apart := false, laid := [("math/bits.deBruijn32tab", laid_math_bits_deBruijn32tab), ("math/bits.deBruijn64tab", laid_math_bits_deBruijn64tab), ("internal/strconv.uint64pow10", laid_internal_strconv_uint64pow10), ("chancel/lex.keys", laid_chancel_lex_keys), ("chancel/term.kids", laid_chancel_term_kids), ("chancel/term.ops", laid_chancel_term_ops), ("chancel/eval.kids", laid_chancel_eval_kids)] }
def EvalShapedSaid : Prop := evalShapedRow.holds Tryz.pinned (OpenSpec.ofChange evalShapedSpec)

/-- ITS FALSE NEIGHBOUR: 'it returns false'. Refute it at one input. -/
def evalShapedWrong : ChangeSpec := { name := "evalShaped", fn := fun _ => fun
  | [d1, d2, d3, d4, d5] => { results := [.lit (.bool false)], args := [d1, d2, d3, d4, d5] }
  | _ => none }
def EvalShapedWrongFalsely : Prop := evalShapedRow.holds Tryz.pinned (OpenSpec.ofChange evalShapedWrong)

/- THE SECOND FORM. 'bulk': how many values and letters a reading holds, each counted each time it is reached (what is shared counts as often as it is met; a slice's spare places count too). A statement '..UptoSaid' is the law's where the arguments, and the package variables that the reading takes, are together of bulk at most 1048576: NARROWER than '..Said'. Prove '..Said' where nothing that the law and all that it calls make is longer than what came in: it says more and counts as full. Else prove '..UptoSaid'. A law counts once. -/
mutual
def uptoBulk {H : Type} : DataW H → Nat
  | .lit (.string bytes) => bytes.length + 1
  | .lit _ => 1
  | .nil => 1
  | .ptr d => uptoBulk d + 1
  | .slice elems spare => uptoBulkAll elems + uptoBulkAll spare + 1
  | .agg parts => uptoBulkAll parts + 1
  | .iface _ d => uptoBulk d + 1
  | .map entries => uptoBulkEntries entries + 1
  | .held _ => 1
def uptoBulkAll {H : Type} : List (DataW H) → Nat
  | [] => 0
  | d :: r => uptoBulk d + uptoBulkAll r
def uptoBulkEntries {H : Type} : List (Lit × DataW H) → Nat
  | [] => 0
  | x :: r => uptoBulkEntry x + uptoBulkEntries r
def uptoBulkEntry {H : Type} : Lit × DataW H → Nat
  | (.string bytes, d) => bytes.length + uptoBulk d + 1
  | (_, d) => uptoBulk d + 1
 end
def uptoSmall : (H : Type) → List (DataW H) → Bool := fun _ ds => decide (uptoBulkAll ds ≤ 1048576)
def OpenSpec.upto (s : _root_.Go.ChangeSpec) : _root_.Go.OpenSpec := { _root_.Go.OpenSpec.ofChange s with cond := some uptoSmall }

/-- 'chancellaw09.ElabTells', WHERE WHAT IT READS IS OF BULK AT MOST 1048576: true; the input reads as it did. -/
def elabTellsUptoRow : OpenClaim := { program := "ythnhddjlgjecdaagreatdoor", sum := "e31e4bc29a53a702b59111a77ca6375634da3c19692667d6874ec9931ee12d30", func := "chancel/chancellaw09.ElabTells", spec := "elabTells", inPlace := ["internal/abi.NoEscape", "internal/bytealg.MakeNoZero", "slices.overlaps[chancel/shape.Bind]"], unfollowed := true, recurses := true, named := ["chancel/lex.keys", "chancel/term.kids", "chancel/term.ops", "internal/strconv.uint64pow10", "math/bits.deBruijn32tab", "math/bits.deBruijn64tab"], loops := true, apart := false, laid := [("math/bits.deBruijn32tab", laid_math_bits_deBruijn32tab), ("math/bits.deBruijn64tab", laid_math_bits_deBruijn64tab), ("internal/strconv.uint64pow10", laid_internal_strconv_uint64pow10), ("chancel/lex.keys", laid_chancel_lex_keys), ("chancel/term.kids", laid_chancel_term_kids), ("chancel/term.ops", laid_chancel_term_ops)], narrowed := true }
def ElabTellsUptoSaid : Prop := elabTellsUptoRow.holds Tryz.pinned (OpenSpec.upto elabTellsSpec)

/-- 'chancellaw09.ElabMeets', WHERE WHAT IT READS IS OF BULK AT MOST 1048576: true; the input reads as it did. -/
def elabMeetsUptoRow : OpenClaim := { program := "ythnhddjlgjecdaagreatdoor", sum := "e31e4bc29a53a702b59111a77ca6375634da3c19692667d6874ec9931ee12d30", func := "chancel/chancellaw09.ElabMeets", spec := "elabMeets", inPlace := ["internal/abi.NoEscape", "internal/bytealg.MakeNoZero", "slices.overlaps[chancel/shape.Bind]"], unfollowed := true, recurses := true, named := ["chancel/lex.keys", "chancel/term.kids", "chancel/term.ops", "internal/strconv.uint64pow10", "math/bits.deBruijn32tab", "math/bits.deBruijn64tab"], loops := true, apart := false, laid := [("math/bits.deBruijn32tab", laid_math_bits_deBruijn32tab), ("math/bits.deBruijn64tab", laid_math_bits_deBruijn64tab), ("internal/strconv.uint64pow10", laid_internal_strconv_uint64pow10), ("chancel/lex.keys", laid_chancel_lex_keys), ("chancel/term.kids", laid_chancel_term_kids), ("chancel/term.ops", laid_chancel_term_ops)], narrowed := true }
def ElabMeetsUptoSaid : Prop := elabMeetsUptoRow.holds Tryz.pinned (OpenSpec.upto elabMeetsSpec)

/-- 'chancellaw09.ElabNames', WHERE WHAT IT READS IS OF BULK AT MOST 1048576: true; the input reads as it did. -/
def elabNamesUptoRow : OpenClaim := { program := "ythnhddjlgjecdaagreatdoor", sum := "e31e4bc29a53a702b59111a77ca6375634da3c19692667d6874ec9931ee12d30", func := "chancel/chancellaw09.ElabNames", spec := "elabNames", inPlace := ["internal/abi.NoEscape", "internal/bytealg.MakeNoZero", "slices.overlaps[chancel/shape.Bind]"], unfollowed := true, recurses := true, named := ["chancel/lex.keys", "chancel/term.kids", "chancel/term.ops", "internal/strconv.uint64pow10", "math/bits.deBruijn32tab", "math/bits.deBruijn64tab"], loops := true, apart := false, laid := [("math/bits.deBruijn32tab", laid_math_bits_deBruijn32tab), ("math/bits.deBruijn64tab", laid_math_bits_deBruijn64tab), ("internal/strconv.uint64pow10", laid_internal_strconv_uint64pow10), ("chancel/lex.keys", laid_chancel_lex_keys), ("chancel/term.kids", laid_chancel_term_kids), ("chancel/term.ops", laid_chancel_term_ops)], narrowed := true }
def ElabNamesUptoSaid : Prop := elabNamesUptoRow.holds Tryz.pinned (OpenSpec.upto elabNamesSpec)

/-- 'chancellaw09.ElabWell', WHERE WHAT IT READS IS OF BULK AT MOST 1048576: true; the input reads as it did. -/
def elabWellUptoRow : OpenClaim := { program := "ythnhddjlgjecdaagreatdoor", sum := "e31e4bc29a53a702b59111a77ca6375634da3c19692667d6874ec9931ee12d30", func := "chancel/chancellaw09.ElabWell", spec := "elabWell", inPlace := ["internal/abi.NoEscape", "internal/bytealg.MakeNoZero", "slices.overlaps[chancel/shape.Bind]"], unfollowed := true, recurses := true, named := ["chancel/lex.keys", "chancel/term.kids", "chancel/term.ops", "internal/strconv.uint64pow10", "math/bits.deBruijn32tab", "math/bits.deBruijn64tab"], apart := false, laid := [("math/bits.deBruijn32tab", laid_math_bits_deBruijn32tab), ("math/bits.deBruijn64tab", laid_math_bits_deBruijn64tab), ("internal/strconv.uint64pow10", laid_internal_strconv_uint64pow10), ("chancel/lex.keys", laid_chancel_lex_keys), ("chancel/term.kids", laid_chancel_term_kids), ("chancel/term.ops", laid_chancel_term_ops)], narrowed := true }
def ElabWellUptoSaid : Prop := elabWellUptoRow.holds Tryz.pinned (OpenSpec.upto elabWellSpec)

/-- 'chancellaw09.ElabRefuses', WHERE WHAT IT READS IS OF BULK AT MOST 1048576: true; the input reads as it did. -/
def elabRefusesUptoRow : OpenClaim := { program := "ythnhddjlgjecdaagreatdoor", sum := "e31e4bc29a53a702b59111a77ca6375634da3c19692667d6874ec9931ee12d30", func := "chancel/chancellaw09.ElabRefuses", spec := "elabRefuses", inPlace := ["internal/abi.NoEscape", "internal/bytealg.MakeNoZero", "slices.overlaps[chancel/shape.Bind]"], unfollowed := true, recurses := true, named := ["chancel/lex.keys", "chancel/term.kids", "chancel/term.ops", "internal/strconv.uint64pow10", "math/bits.deBruijn32tab", "math/bits.deBruijn64tab"], apart := false, laid := [("math/bits.deBruijn32tab", laid_math_bits_deBruijn32tab), ("math/bits.deBruijn64tab", laid_math_bits_deBruijn64tab), ("internal/strconv.uint64pow10", laid_internal_strconv_uint64pow10), ("chancel/lex.keys", laid_chancel_lex_keys), ("chancel/term.kids", laid_chancel_term_kids), ("chancel/term.ops", laid_chancel_term_ops)], narrowed := true }
def ElabRefusesUptoSaid : Prop := elabRefusesUptoRow.holds Tryz.pinned (OpenSpec.upto elabRefusesSpec)

/-- 'chancellaw09.ElabBare', WHERE WHAT IT READS IS OF BULK AT MOST 1048576: true; the input reads as it did. -/
def elabBareUptoRow : OpenClaim := { program := "ythnhddjlgjecdaagreatdoor", sum := "e31e4bc29a53a702b59111a77ca6375634da3c19692667d6874ec9931ee12d30", func := "chancel/chancellaw09.ElabBare", spec := "elabBare", inPlace := ["internal/abi.NoEscape", "internal/bytealg.MakeNoZero", "slices.overlaps[chancel/shape.Bind]"], unfollowed := true, recurses := true, named := ["chancel/lex.keys", "chancel/term.kids", "chancel/term.ops", "internal/strconv.uint64pow10", "math/bits.deBruijn32tab", "math/bits.deBruijn64tab"], loops := true, apart := false, laid := [("math/bits.deBruijn32tab", laid_math_bits_deBruijn32tab), ("math/bits.deBruijn64tab", laid_math_bits_deBruijn64tab), ("internal/strconv.uint64pow10", laid_internal_strconv_uint64pow10), ("chancel/lex.keys", laid_chancel_lex_keys), ("chancel/term.kids", laid_chancel_term_kids), ("chancel/term.ops", laid_chancel_term_ops)], narrowed := true }
def ElabBareUptoSaid : Prop := elabBareUptoRow.holds Tryz.pinned (OpenSpec.upto elabBareSpec)

/-- 'chancellaw19.EvalShaped', WHERE WHAT IT READS IS OF BULK AT MOST 1048576: true; the input reads as it did. -/
def evalShapedUptoRow : OpenClaim := { program := "ythnhddjlgjecdaagreatdoor", sum := "e31e4bc29a53a702b59111a77ca6375634da3c19692667d6874ec9931ee12d30", func := "chancel/chancellaw19.EvalShaped", spec := "evalShaped", inPlace := ["internal/abi.NoEscape", "internal/bytealg.MakeNoZero", "slices.overlaps[chancel/shape.Bind]"], unfollowed := true, recurses := true, named := ["chancel/eval.kids", "chancel/lex.keys", "chancel/term.kids", "chancel/term.ops", "internal/strconv.uint64pow10", "math/bits.deBruijn32tab", "math/bits.deBruijn64tab"], loops := true, apart := false, laid := [("math/bits.deBruijn32tab", laid_math_bits_deBruijn32tab), ("math/bits.deBruijn64tab", laid_math_bits_deBruijn64tab), ("internal/strconv.uint64pow10", laid_internal_strconv_uint64pow10), ("chancel/lex.keys", laid_chancel_lex_keys), ("chancel/term.kids", laid_chancel_term_kids), ("chancel/term.ops", laid_chancel_term_ops), ("chancel/eval.kids", laid_chancel_eval_kids)], narrowed := true }
def EvalShapedUptoSaid : Prop := evalShapedUptoRow.holds Tryz.pinned (OpenSpec.upto evalShapedSpec)

end Rows
end Go.Proofs.YthnhddjlgjecdaaGreatDoor
