/-
  No cell of these rows narrows 'for every input' (looked for: loops, veiled, ifaces, maps, wideKeys, modest, calm, conditions, laid).
  DERIVED. THE GIVEN ROWS OF THIS SEAT. 19 by the template 'for every input the law returns true; each argument reads behind the call as it read before'; 0 by the template 'total and deterministic' (their statements: YtoijjlpkoniipaaTotals.lean).
  GIVEN WITH THE SEED: the statements are not yours to turn. If you find one false, say at which input.
  Laid BY PROGRAM, IN A SANDBOX (cutbox-rows.mjs): the forced cells as the released guide's own fill.sh prints them over the translation 0a8413f8e42d4a45… (all of the seat's roots in one cut). By AI agents, Wed Nov 11 2026. No macro, syntax, notation, axiom, sorry.
-/
import Derived.Test.YtoijjlpkoniipaaChecked
import GoSem.Claim
import GoSem.ClaimJoined
import GoSem.ClaimMapViews
import Derived.JoinedTies
import Derived.KernelRfl
namespace Go.Proofs.Ytoijjlpkoniipaa
/- THE CELL 'sum', in the pinned program and in every row, IS THE sha256 OF THE DUMP (.gsa) THAT YtoijjlpkoniipaaProg.lean LOADS. Nothing in Lean hashes anything: it is a label: what it is worth is what the hold of that sum in a sandbox is worth. -/
noncomputable def Try.pinned : Pinned := { name := "ytoijjlpkoniipaa", sum := "0a8413f8e42d4a45881403dd83299273776d5976ee50fa85625ce882f617ee93", checked := Try.checked }
namespace Rows
def none {H : Type} : Left H := { results := [], args := [] }

/-- 'scriniumlaw07.GfField': WHATEVER THE INPUT: true; the input reads as it did. -/
def gfFieldSpec : ChangeSpec := { name := "gfField", fn := fun _ => fun
  | [d1, d2, d3] => { results := [.lit (.bool true)], args := [d1, d2, d3] }
  | _ => none }
def gfFieldRow : OpenClaim := { program := "ytoijjlpkoniipaa", sum := "0a8413f8e42d4a45881403dd83299273776d5976ee50fa85625ce882f617ee93", func := "scrinium/scriniumlaw07.GfField", spec := "gfField", apart := false }
def GfFieldSaid : Prop := gfFieldRow.holds Try.pinned (OpenSpec.ofChange gfFieldSpec)

/-- ITS FALSE NEIGHBOUR: 'it returns false'. Refute it at one input. -/
def gfFieldWrong : ChangeSpec := { name := "gfField", fn := fun _ => fun
  | [d1, d2, d3] => { results := [.lit (.bool false)], args := [d1, d2, d3] }
  | _ => none }
def GfFieldWrongFalsely : Prop := gfFieldRow.holds Try.pinned (OpenSpec.ofChange gfFieldWrong)

/-- 'scriniumlaw07.GfExp': WHATEVER THE INPUT: true; the input reads as it did. -/
def gfExpSpec : ChangeSpec := { name := "gfExp", fn := fun _ => fun
  | [d1, d2, d3] => { results := [.lit (.bool true)], args := [d1, d2, d3] }
  | _ => none }
def gfExpRow : OpenClaim := { program := "ytoijjlpkoniipaa", sum := "0a8413f8e42d4a45881403dd83299273776d5976ee50fa85625ce882f617ee93", func := "scrinium/scriniumlaw07.GfExp", spec := "gfExp", apart := false }
def GfExpSaid : Prop := gfExpRow.holds Try.pinned (OpenSpec.ofChange gfExpSpec)

/-- ITS FALSE NEIGHBOUR: 'it returns false'. Refute it at one input. -/
def gfExpWrong : ChangeSpec := { name := "gfExp", fn := fun _ => fun
  | [d1, d2, d3] => { results := [.lit (.bool false)], args := [d1, d2, d3] }
  | _ => none }
def GfExpWrongFalsely : Prop := gfExpRow.holds Try.pinned (OpenSpec.ofChange gfExpWrong)

/-- 'scriniumlaw07.GfMul': WHATEVER THE INPUT: true; the input reads as it did. -/
def gfMulSpec : ChangeSpec := { name := "gfMul", fn := fun _ => fun
  | [d1, d2] => { results := [.lit (.bool true)], args := [d1, d2] }
  | _ => none }
def gfMulRow : OpenClaim := { program := "ytoijjlpkoniipaa", sum := "0a8413f8e42d4a45881403dd83299273776d5976ee50fa85625ce882f617ee93", func := "scrinium/scriniumlaw07.GfMul", spec := "gfMul", apart := false }
def GfMulSaid : Prop := gfMulRow.holds Try.pinned (OpenSpec.ofChange gfMulSpec)

/-- ITS FALSE NEIGHBOUR: 'it returns false'. Refute it at one input. -/
def gfMulWrong : ChangeSpec := { name := "gfMul", fn := fun _ => fun
  | [d1, d2] => { results := [.lit (.bool false)], args := [d1, d2] }
  | _ => none }
def GfMulWrongFalsely : Prop := gfMulRow.holds Try.pinned (OpenSpec.ofChange gfMulWrong)

/-- 'scriniumlaw07.GfSums': WHATEVER THE INPUT: true; the input reads as it did. -/
def gfSumsSpec : ChangeSpec := { name := "gfSums", fn := fun _ => fun
  | [d1, d2] => { results := [.lit (.bool true)], args := [d1, d2] }
  | _ => none }
def gfSumsRow : OpenClaim := { program := "ytoijjlpkoniipaa", sum := "0a8413f8e42d4a45881403dd83299273776d5976ee50fa85625ce882f617ee93", func := "scrinium/scriniumlaw07.GfSums", spec := "gfSums", apart := false }
def GfSumsSaid : Prop := gfSumsRow.holds Try.pinned (OpenSpec.ofChange gfSumsSpec)

/-- ITS FALSE NEIGHBOUR: 'it returns false'. Refute it at one input. -/
def gfSumsWrong : ChangeSpec := { name := "gfSums", fn := fun _ => fun
  | [d1, d2] => { results := [.lit (.bool false)], args := [d1, d2] }
  | _ => none }
def GfSumsWrongFalsely : Prop := gfSumsRow.holds Try.pinned (OpenSpec.ofChange gfSumsWrong)

/-- 'scriniumlaw07.GfLinear': WHATEVER THE INPUT: true; the input reads as it did. -/
def gfLinearSpec : ChangeSpec := { name := "gfLinear", fn := fun _ => fun
  | [d1, d2, d3] => { results := [.lit (.bool true)], args := [d1, d2, d3] }
  | _ => none }
def gfLinearRow : OpenClaim := { program := "ytoijjlpkoniipaa", sum := "0a8413f8e42d4a45881403dd83299273776d5976ee50fa85625ce882f617ee93", func := "scrinium/scriniumlaw07.GfLinear", spec := "gfLinear", apart := false }
def GfLinearSaid : Prop := gfLinearRow.holds Try.pinned (OpenSpec.ofChange gfLinearSpec)

/-- ITS FALSE NEIGHBOUR: 'it returns false'. Refute it at one input. -/
def gfLinearWrong : ChangeSpec := { name := "gfLinear", fn := fun _ => fun
  | [d1, d2, d3] => { results := [.lit (.bool false)], args := [d1, d2, d3] }
  | _ => none }
def GfLinearWrongFalsely : Prop := gfLinearRow.holds Try.pinned (OpenSpec.ofChange gfLinearWrong)

/-- 'scriniumlaw09.RsEncode': WHATEVER THE INPUT: true; the input reads as it did. -/
def rsEncodeSpec : ChangeSpec := { name := "rsEncode", fn := fun _ => fun
  | [d1, d2, d3] => { results := [.lit (.bool true)], args := [d1, d2, d3] }
  | _ => none }
def rsEncodeRow : OpenClaim := { program := "ytoijjlpkoniipaa", sum := "0a8413f8e42d4a45881403dd83299273776d5976ee50fa85625ce882f617ee93", func := "scrinium/scriniumlaw09.RsEncode", spec := "rsEncode", unfollowed := true, recurses := true, apart := false }
def RsEncodeSaid : Prop := rsEncodeRow.holds Try.pinned (OpenSpec.ofChange rsEncodeSpec)

/-- ITS FALSE NEIGHBOUR: 'it returns false'. Refute it at one input. -/
def rsEncodeWrong : ChangeSpec := { name := "rsEncode", fn := fun _ => fun
  | [d1, d2, d3] => { results := [.lit (.bool false)], args := [d1, d2, d3] }
  | _ => none }
def RsEncodeWrongFalsely : Prop := rsEncodeRow.holds Try.pinned (OpenSpec.ofChange rsEncodeWrong)

/-- 'scriniumlaw07.GfNil': WHATEVER THE INPUT: true; the input reads as it did. -/
def gfNilSpec : ChangeSpec := { name := "gfNil", fn := fun _ => fun
  | [d1, d2, d3] => { results := [.lit (.bool true)], args := [d1, d2, d3] }
  | _ => none }
def gfNilRow : OpenClaim := { program := "ytoijjlpkoniipaa", sum := "0a8413f8e42d4a45881403dd83299273776d5976ee50fa85625ce882f617ee93", func := "scrinium/scriniumlaw07.GfNil", spec := "gfNil", apart := false }
def GfNilSaid : Prop := gfNilRow.holds Try.pinned (OpenSpec.ofChange gfNilSpec)

/-- ITS FALSE NEIGHBOUR: 'it returns false'. Refute it at one input. -/
def gfNilWrong : ChangeSpec := { name := "gfNil", fn := fun _ => fun
  | [d1, d2, d3] => { results := [.lit (.bool false)], args := [d1, d2, d3] }
  | _ => none }
def GfNilWrongFalsely : Prop := gfNilRow.holds Try.pinned (OpenSpec.ofChange gfNilWrong)

/-- 'scriniumlaw09.RsNil': WHATEVER THE INPUT: true; the input reads as it did. -/
def rsNilSpec : ChangeSpec := { name := "rsNil", fn := fun _ => fun
  | [d1, d2] => { results := [.lit (.bool true)], args := [d1, d2] }
  | _ => none }
def rsNilRow : OpenClaim := { program := "ytoijjlpkoniipaa", sum := "0a8413f8e42d4a45881403dd83299273776d5976ee50fa85625ce882f617ee93", func := "scrinium/scriniumlaw09.RsNil", spec := "rsNil", unfollowed := true, recurses := true, apart := false }
def RsNilSaid : Prop := rsNilRow.holds Try.pinned (OpenSpec.ofChange rsNilSpec)

/-- ITS FALSE NEIGHBOUR: 'it returns false'. Refute it at one input. -/
def rsNilWrong : ChangeSpec := { name := "rsNil", fn := fun _ => fun
  | [d1, d2] => { results := [.lit (.bool false)], args := [d1, d2] }
  | _ => none }
def RsNilWrongFalsely : Prop := rsNilRow.holds Try.pinned (OpenSpec.ofChange rsNilWrong)

/-- 'scriniumlaw08.MatrixInverse': WHATEVER THE INPUT: true; the input reads as it did. -/
def matrixInverseSpec : ChangeSpec := { name := "matrixInverse", fn := fun _ => fun
  | [d] => { results := [.lit (.bool true)], args := [d] }
  | _ => none }
def matrixInverseRow : OpenClaim := { program := "ytoijjlpkoniipaa", sum := "0a8413f8e42d4a45881403dd83299273776d5976ee50fa85625ce882f617ee93", func := "scrinium/scriniumlaw08.MatrixInverse", spec := "matrixInverse", apart := false }
def MatrixInverseSaid : Prop := matrixInverseRow.holds Try.pinned (OpenSpec.ofChange matrixInverseSpec)

/-- ITS FALSE NEIGHBOUR: 'it returns false'. Refute it at one input. -/
def matrixInverseWrong : ChangeSpec := { name := "matrixInverse", fn := fun _ => fun
  | [d] => { results := [.lit (.bool false)], args := [d] }
  | _ => none }
def MatrixInverseWrongFalsely : Prop := matrixInverseRow.holds Try.pinned (OpenSpec.ofChange matrixInverseWrong)

/-- 'scriniumlaw08.MatrixCauchy': WHATEVER THE INPUT: true; the input reads as it did. -/
def matrixCauchySpec : ChangeSpec := { name := "matrixCauchy", fn := fun _ => fun
  | [d1, d2] => { results := [.lit (.bool true)], args := [d1, d2] }
  | _ => none }
def matrixCauchyRow : OpenClaim := { program := "ytoijjlpkoniipaa", sum := "0a8413f8e42d4a45881403dd83299273776d5976ee50fa85625ce882f617ee93", func := "scrinium/scriniumlaw08.MatrixCauchy", spec := "matrixCauchy", apart := false }
def MatrixCauchySaid : Prop := matrixCauchyRow.holds Try.pinned (OpenSpec.ofChange matrixCauchySpec)

/-- ITS FALSE NEIGHBOUR: 'it returns false'. Refute it at one input. -/
def matrixCauchyWrong : ChangeSpec := { name := "matrixCauchy", fn := fun _ => fun
  | [d1, d2] => { results := [.lit (.bool false)], args := [d1, d2] }
  | _ => none }
def MatrixCauchyWrongFalsely : Prop := matrixCauchyRow.holds Try.pinned (OpenSpec.ofChange matrixCauchyWrong)

/-- 'scriniumlaw08.MatrixSquare': WHATEVER THE INPUT: true; the input reads as it did. -/
def matrixSquareSpec : ChangeSpec := { name := "matrixSquare", fn := fun _ => fun
  | [d1, d2, d3] => { results := [.lit (.bool true)], args := [d1, d2, d3] }
  | _ => none }
def matrixSquareRow : OpenClaim := { program := "ytoijjlpkoniipaa", sum := "0a8413f8e42d4a45881403dd83299273776d5976ee50fa85625ce882f617ee93", func := "scrinium/scriniumlaw08.MatrixSquare", spec := "matrixSquare", apart := false }
def MatrixSquareSaid : Prop := matrixSquareRow.holds Try.pinned (OpenSpec.ofChange matrixSquareSpec)

/-- ITS FALSE NEIGHBOUR: 'it returns false'. Refute it at one input. -/
def matrixSquareWrong : ChangeSpec := { name := "matrixSquare", fn := fun _ => fun
  | [d1, d2, d3] => { results := [.lit (.bool false)], args := [d1, d2, d3] }
  | _ => none }
def MatrixSquareWrongFalsely : Prop := matrixSquareRow.holds Try.pinned (OpenSpec.ofChange matrixSquareWrong)

/-- 'scriniumlaw08.MatrixMul': WHATEVER THE INPUT: true; the input reads as it did. -/
def matrixMulSpec : ChangeSpec := { name := "matrixMul", fn := fun _ => fun
  | [d1, d2] => { results := [.lit (.bool true)], args := [d1, d2] }
  | _ => none }
def matrixMulRow : OpenClaim := { program := "ytoijjlpkoniipaa", sum := "0a8413f8e42d4a45881403dd83299273776d5976ee50fa85625ce882f617ee93", func := "scrinium/scriniumlaw08.MatrixMul", spec := "matrixMul", apart := false }
def MatrixMulSaid : Prop := matrixMulRow.holds Try.pinned (OpenSpec.ofChange matrixMulSpec)

/-- ITS FALSE NEIGHBOUR: 'it returns false'. Refute it at one input. -/
def matrixMulWrong : ChangeSpec := { name := "matrixMul", fn := fun _ => fun
  | [d1, d2] => { results := [.lit (.bool false)], args := [d1, d2] }
  | _ => none }
def MatrixMulWrongFalsely : Prop := matrixMulRow.holds Try.pinned (OpenSpec.ofChange matrixMulWrong)

/-- 'scriniumlaw08.MatrixGroups': WHATEVER THE INPUT: true; the input reads as it did. -/
def matrixGroupsSpec : ChangeSpec := { name := "matrixGroups", fn := fun _ => fun
  | [d1, d2, d3] => { results := [.lit (.bool true)], args := [d1, d2, d3] }
  | _ => none }
def matrixGroupsRow : OpenClaim := { program := "ytoijjlpkoniipaa", sum := "0a8413f8e42d4a45881403dd83299273776d5976ee50fa85625ce882f617ee93", func := "scrinium/scriniumlaw08.MatrixGroups", spec := "matrixGroups", apart := false }
def MatrixGroupsSaid : Prop := matrixGroupsRow.holds Try.pinned (OpenSpec.ofChange matrixGroupsSpec)

/-- ITS FALSE NEIGHBOUR: 'it returns false'. Refute it at one input. -/
def matrixGroupsWrong : ChangeSpec := { name := "matrixGroups", fn := fun _ => fun
  | [d1, d2, d3] => { results := [.lit (.bool false)], args := [d1, d2, d3] }
  | _ => none }
def MatrixGroupsWrongFalsely : Prop := matrixGroupsRow.holds Try.pinned (OpenSpec.ofChange matrixGroupsWrong)

/-- 'scriniumlaw08.MatrixRanks': WHATEVER THE INPUT: true; the input reads as it did. -/
def matrixRanksSpec : ChangeSpec := { name := "matrixRanks", fn := fun _ => fun
  | [d1, d2, d3] => { results := [.lit (.bool true)], args := [d1, d2, d3] }
  | _ => none }
def matrixRanksRow : OpenClaim := { program := "ytoijjlpkoniipaa", sum := "0a8413f8e42d4a45881403dd83299273776d5976ee50fa85625ce882f617ee93", func := "scrinium/scriniumlaw08.MatrixRanks", spec := "matrixRanks", apart := false }
def MatrixRanksSaid : Prop := matrixRanksRow.holds Try.pinned (OpenSpec.ofChange matrixRanksSpec)

/-- ITS FALSE NEIGHBOUR: 'it returns false'. Refute it at one input. -/
def matrixRanksWrong : ChangeSpec := { name := "matrixRanks", fn := fun _ => fun
  | [d1, d2, d3] => { results := [.lit (.bool false)], args := [d1, d2, d3] }
  | _ => none }
def MatrixRanksWrongFalsely : Prop := matrixRanksRow.holds Try.pinned (OpenSpec.ofChange matrixRanksWrong)

/-- 'scriniumlaw08.MatrixNil': WHATEVER THE INPUT: true; the input reads as it did. -/
def matrixNilSpec : ChangeSpec := { name := "matrixNil", fn := fun _ => fun
  | [d1, d2] => { results := [.lit (.bool true)], args := [d1, d2] }
  | _ => none }
def matrixNilRow : OpenClaim := { program := "ytoijjlpkoniipaa", sum := "0a8413f8e42d4a45881403dd83299273776d5976ee50fa85625ce882f617ee93", func := "scrinium/scriniumlaw08.MatrixNil", spec := "matrixNil", apart := false }
def MatrixNilSaid : Prop := matrixNilRow.holds Try.pinned (OpenSpec.ofChange matrixNilSpec)

/-- ITS FALSE NEIGHBOUR: 'it returns false'. Refute it at one input. -/
def matrixNilWrong : ChangeSpec := { name := "matrixNil", fn := fun _ => fun
  | [d1, d2] => { results := [.lit (.bool false)], args := [d1, d2] }
  | _ => none }
def MatrixNilWrongFalsely : Prop := matrixNilRow.holds Try.pinned (OpenSpec.ofChange matrixNilWrong)

/-- 'scriniumlaw09.RsLess': WHATEVER THE INPUT: true; the input reads as it did. -/
def rsLessSpec : ChangeSpec := { name := "rsLess", fn := fun _ => fun
  | [d1, d2, d3] => { results := [.lit (.bool true)], args := [d1, d2, d3] }
  | _ => none }
def rsLessRow : OpenClaim := { program := "ytoijjlpkoniipaa", sum := "0a8413f8e42d4a45881403dd83299273776d5976ee50fa85625ce882f617ee93", func := "scrinium/scriniumlaw09.RsLess", spec := "rsLess", unfollowed := true, recurses := true, apart := false }
def RsLessSaid : Prop := rsLessRow.holds Try.pinned (OpenSpec.ofChange rsLessSpec)

/-- ITS FALSE NEIGHBOUR: 'it returns false'. Refute it at one input. -/
def rsLessWrong : ChangeSpec := { name := "rsLess", fn := fun _ => fun
  | [d1, d2, d3] => { results := [.lit (.bool false)], args := [d1, d2, d3] }
  | _ => none }
def RsLessWrongFalsely : Prop := rsLessRow.holds Try.pinned (OpenSpec.ofChange rsLessWrong)

/-- 'scriniumlaw09.RsLinear': WHATEVER THE INPUT: true; the input reads as it did. -/
def rsLinearSpec : ChangeSpec := { name := "rsLinear", fn := fun _ => fun
  | [d1, d2, d3] => { results := [.lit (.bool true)], args := [d1, d2, d3] }
  | _ => none }
def rsLinearRow : OpenClaim := { program := "ytoijjlpkoniipaa", sum := "0a8413f8e42d4a45881403dd83299273776d5976ee50fa85625ce882f617ee93", func := "scrinium/scriniumlaw09.RsLinear", spec := "rsLinear", unfollowed := true, recurses := true, apart := false }
def RsLinearSaid : Prop := rsLinearRow.holds Try.pinned (OpenSpec.ofChange rsLinearSpec)

/-- ITS FALSE NEIGHBOUR: 'it returns false'. Refute it at one input. -/
def rsLinearWrong : ChangeSpec := { name := "rsLinear", fn := fun _ => fun
  | [d1, d2, d3] => { results := [.lit (.bool false)], args := [d1, d2, d3] }
  | _ => none }
def RsLinearWrongFalsely : Prop := rsLinearRow.holds Try.pinned (OpenSpec.ofChange rsLinearWrong)

/-- 'scriniumlaw09.RsDecode': WHATEVER THE INPUT: true; the input reads as it did. -/
def rsDecodeSpec : ChangeSpec := { name := "rsDecode", fn := fun _ => fun
  | [d1, d2, d3] => { results := [.lit (.bool true)], args := [d1, d2, d3] }
  | _ => none }
def rsDecodeRow : OpenClaim := { program := "ytoijjlpkoniipaa", sum := "0a8413f8e42d4a45881403dd83299273776d5976ee50fa85625ce882f617ee93", func := "scrinium/scriniumlaw09.RsDecode", spec := "rsDecode", unfollowed := true, recurses := true, apart := false }
def RsDecodeSaid : Prop := rsDecodeRow.holds Try.pinned (OpenSpec.ofChange rsDecodeSpec)

/-- ITS FALSE NEIGHBOUR: 'it returns false'. Refute it at one input. -/
def rsDecodeWrong : ChangeSpec := { name := "rsDecode", fn := fun _ => fun
  | [d1, d2, d3] => { results := [.lit (.bool false)], args := [d1, d2, d3] }
  | _ => none }
def RsDecodeWrongFalsely : Prop := rsDecodeRow.holds Try.pinned (OpenSpec.ofChange rsDecodeWrong)

/-- 'scriniumlaw09.RsAny': WHATEVER THE INPUT: true; the input reads as it did. -/
def rsAnySpec : ChangeSpec := { name := "rsAny", fn := fun _ => fun
  | [d1, d2, d3] => { results := [.lit (.bool true)], args := [d1, d2, d3] }
  | _ => none }
def rsAnyRow : OpenClaim := { program := "ytoijjlpkoniipaa", sum := "0a8413f8e42d4a45881403dd83299273776d5976ee50fa85625ce882f617ee93", func := "scrinium/scriniumlaw09.RsAny", spec := "rsAny", unfollowed := true, recurses := true, apart := false }
def RsAnySaid : Prop := rsAnyRow.holds Try.pinned (OpenSpec.ofChange rsAnySpec)

/-- ITS FALSE NEIGHBOUR: 'it returns false'. Refute it at one input. -/
def rsAnyWrong : ChangeSpec := { name := "rsAny", fn := fun _ => fun
  | [d1, d2, d3] => { results := [.lit (.bool false)], args := [d1, d2, d3] }
  | _ => none }
def RsAnyWrongFalsely : Prop := rsAnyRow.holds Try.pinned (OpenSpec.ofChange rsAnyWrong)

/- THE SECOND FORM. 'bulk': how many values and letters a reading holds, each counted each time it is reached (what is shared counts as often as it is met; a slice's spare places count too). A statement '..UptoSaid' is the law's where the arguments, and the package variables that the reading takes, are together of bulk at most 1048576: NARROWER than '..Said'. Prove '..Said' where nothing that the law and all that it calls make is longer than what came in: it says more and counts as full. Else prove '..UptoSaid'. A law counts once. -/
mutual
def uptoBulk {H : Type} : DataW H → Nat
  | .lit (.string bytes) => bytes.length + 1
  | .lit _ => 1
  | .nil => 1
  | .ptr d => uptoBulk d + 1
  | .slice elems spare => uptoBulkAll elems + uptoBulkAll spare + 1
  | .agg parts => uptoBulkAll parts + 1
  | .iface _ d => uptoBulk d + 1
  | .map entries => uptoBulkEntries entries + 1
  | .held _ => 1
def uptoBulkAll {H : Type} : List (DataW H) → Nat
  | [] => 0
  | d :: r => uptoBulk d + uptoBulkAll r
def uptoBulkEntries {H : Type} : List (Lit × DataW H) → Nat
  | [] => 0
  | x :: r => uptoBulkEntry x + uptoBulkEntries r
def uptoBulkEntry {H : Type} : Lit × DataW H → Nat
  | (.string bytes, d) => bytes.length + uptoBulk d + 1
  | (_, d) => uptoBulk d + 1
 end
def uptoSmall : (H : Type) → List (DataW H) → Bool := fun _ ds => decide (uptoBulkAll ds ≤ 1048576)
def OpenSpec.upto (s : _root_.Go.ChangeSpec) : _root_.Go.OpenSpec := { _root_.Go.OpenSpec.ofChange s with cond := some uptoSmall }

/-- 'scriniumlaw07.GfField', WHERE WHAT IT READS IS OF BULK AT MOST 1048576: true; the input reads as it did. -/
def gfFieldUptoRow : OpenClaim := { program := "ytoijjlpkoniipaa", sum := "0a8413f8e42d4a45881403dd83299273776d5976ee50fa85625ce882f617ee93", func := "scrinium/scriniumlaw07.GfField", spec := "gfField", apart := false, narrowed := true }
def GfFieldUptoSaid : Prop := gfFieldUptoRow.holds Try.pinned (OpenSpec.upto gfFieldSpec)

/-- 'scriniumlaw07.GfExp', WHERE WHAT IT READS IS OF BULK AT MOST 1048576: true; the input reads as it did. -/
def gfExpUptoRow : OpenClaim := { program := "ytoijjlpkoniipaa", sum := "0a8413f8e42d4a45881403dd83299273776d5976ee50fa85625ce882f617ee93", func := "scrinium/scriniumlaw07.GfExp", spec := "gfExp", apart := false, narrowed := true }
def GfExpUptoSaid : Prop := gfExpUptoRow.holds Try.pinned (OpenSpec.upto gfExpSpec)

/-- 'scriniumlaw07.GfMul', WHERE WHAT IT READS IS OF BULK AT MOST 1048576: true; the input reads as it did. -/
def gfMulUptoRow : OpenClaim := { program := "ytoijjlpkoniipaa", sum := "0a8413f8e42d4a45881403dd83299273776d5976ee50fa85625ce882f617ee93", func := "scrinium/scriniumlaw07.GfMul", spec := "gfMul", apart := false, narrowed := true }
def GfMulUptoSaid : Prop := gfMulUptoRow.holds Try.pinned (OpenSpec.upto gfMulSpec)

/-- 'scriniumlaw07.GfSums', WHERE WHAT IT READS IS OF BULK AT MOST 1048576: true; the input reads as it did. -/
def gfSumsUptoRow : OpenClaim := { program := "ytoijjlpkoniipaa", sum := "0a8413f8e42d4a45881403dd83299273776d5976ee50fa85625ce882f617ee93", func := "scrinium/scriniumlaw07.GfSums", spec := "gfSums", apart := false, narrowed := true }
def GfSumsUptoSaid : Prop := gfSumsUptoRow.holds Try.pinned (OpenSpec.upto gfSumsSpec)

/-- 'scriniumlaw07.GfLinear', WHERE WHAT IT READS IS OF BULK AT MOST 1048576: true; the input reads as it did. -/
def gfLinearUptoRow : OpenClaim := { program := "ytoijjlpkoniipaa", sum := "0a8413f8e42d4a45881403dd83299273776d5976ee50fa85625ce882f617ee93", func := "scrinium/scriniumlaw07.GfLinear", spec := "gfLinear", apart := false, narrowed := true }
def GfLinearUptoSaid : Prop := gfLinearUptoRow.holds Try.pinned (OpenSpec.upto gfLinearSpec)

/-- 'scriniumlaw09.RsEncode', WHERE WHAT IT READS IS OF BULK AT MOST 1048576: true; the input reads as it did. -/
def rsEncodeUptoRow : OpenClaim := { program := "ytoijjlpkoniipaa", sum := "0a8413f8e42d4a45881403dd83299273776d5976ee50fa85625ce882f617ee93", func := "scrinium/scriniumlaw09.RsEncode", spec := "rsEncode", unfollowed := true, recurses := true, apart := false, narrowed := true }
def RsEncodeUptoSaid : Prop := rsEncodeUptoRow.holds Try.pinned (OpenSpec.upto rsEncodeSpec)

/-- 'scriniumlaw07.GfNil', WHERE WHAT IT READS IS OF BULK AT MOST 1048576: true; the input reads as it did. -/
def gfNilUptoRow : OpenClaim := { program := "ytoijjlpkoniipaa", sum := "0a8413f8e42d4a45881403dd83299273776d5976ee50fa85625ce882f617ee93", func := "scrinium/scriniumlaw07.GfNil", spec := "gfNil", apart := false, narrowed := true }
def GfNilUptoSaid : Prop := gfNilUptoRow.holds Try.pinned (OpenSpec.upto gfNilSpec)

/-- 'scriniumlaw09.RsNil', WHERE WHAT IT READS IS OF BULK AT MOST 1048576: true; the input reads as it did. -/
def rsNilUptoRow : OpenClaim := { program := "ytoijjlpkoniipaa", sum := "0a8413f8e42d4a45881403dd83299273776d5976ee50fa85625ce882f617ee93", func := "scrinium/scriniumlaw09.RsNil", spec := "rsNil", unfollowed := true, recurses := true, apart := false, narrowed := true }
def RsNilUptoSaid : Prop := rsNilUptoRow.holds Try.pinned (OpenSpec.upto rsNilSpec)

/-- 'scriniumlaw08.MatrixInverse', WHERE WHAT IT READS IS OF BULK AT MOST 1048576: true; the input reads as it did. -/
def matrixInverseUptoRow : OpenClaim := { program := "ytoijjlpkoniipaa", sum := "0a8413f8e42d4a45881403dd83299273776d5976ee50fa85625ce882f617ee93", func := "scrinium/scriniumlaw08.MatrixInverse", spec := "matrixInverse", apart := false, narrowed := true }
def MatrixInverseUptoSaid : Prop := matrixInverseUptoRow.holds Try.pinned (OpenSpec.upto matrixInverseSpec)

/-- 'scriniumlaw08.MatrixCauchy', WHERE WHAT IT READS IS OF BULK AT MOST 1048576: true; the input reads as it did. -/
def matrixCauchyUptoRow : OpenClaim := { program := "ytoijjlpkoniipaa", sum := "0a8413f8e42d4a45881403dd83299273776d5976ee50fa85625ce882f617ee93", func := "scrinium/scriniumlaw08.MatrixCauchy", spec := "matrixCauchy", apart := false, narrowed := true }
def MatrixCauchyUptoSaid : Prop := matrixCauchyUptoRow.holds Try.pinned (OpenSpec.upto matrixCauchySpec)

/-- 'scriniumlaw08.MatrixSquare', WHERE WHAT IT READS IS OF BULK AT MOST 1048576: true; the input reads as it did. -/
def matrixSquareUptoRow : OpenClaim := { program := "ytoijjlpkoniipaa", sum := "0a8413f8e42d4a45881403dd83299273776d5976ee50fa85625ce882f617ee93", func := "scrinium/scriniumlaw08.MatrixSquare", spec := "matrixSquare", apart := false, narrowed := true }
def MatrixSquareUptoSaid : Prop := matrixSquareUptoRow.holds Try.pinned (OpenSpec.upto matrixSquareSpec)

/-- 'scriniumlaw08.MatrixMul', WHERE WHAT IT READS IS OF BULK AT MOST 1048576: true; the input reads as it did. -/
def matrixMulUptoRow : OpenClaim := { program := "ytoijjlpkoniipaa", sum := "0a8413f8e42d4a45881403dd83299273776d5976ee50fa85625ce882f617ee93", func := "scrinium/scriniumlaw08.MatrixMul", spec := "matrixMul", apart := false, narrowed := true }
def MatrixMulUptoSaid : Prop := matrixMulUptoRow.holds Try.pinned (OpenSpec.upto matrixMulSpec)

/-- 'scriniumlaw08.MatrixGroups', WHERE WHAT IT READS IS OF BULK AT MOST 1048576: true; the input reads as it did. -/
def matrixGroupsUptoRow : OpenClaim := { program := "ytoijjlpkoniipaa", sum := "0a8413f8e42d4a45881403dd83299273776d5976ee50fa85625ce882f617ee93", func := "scrinium/scriniumlaw08.MatrixGroups", spec := "matrixGroups", apart := false, narrowed := true }
def MatrixGroupsUptoSaid : Prop := matrixGroupsUptoRow.holds Try.pinned (OpenSpec.upto matrixGroupsSpec)

/-- 'scriniumlaw08.MatrixRanks', WHERE WHAT IT READS IS OF BULK AT MOST 1048576: true; the input reads as it did. -/
def matrixRanksUptoRow : OpenClaim := { program := "ytoijjlpkoniipaa", sum := "0a8413f8e42d4a45881403dd83299273776d5976ee50fa85625ce882f617ee93", func := "scrinium/scriniumlaw08.MatrixRanks", spec := "matrixRanks", apart := false, narrowed := true }
def MatrixRanksUptoSaid : Prop := matrixRanksUptoRow.holds Try.pinned (OpenSpec.upto matrixRanksSpec)

/-- 'scriniumlaw08.MatrixNil', WHERE WHAT IT READS IS OF BULK AT MOST 1048576: true; the input reads as it did. -/
def matrixNilUptoRow : OpenClaim := { program := "ytoijjlpkoniipaa", sum := "0a8413f8e42d4a45881403dd83299273776d5976ee50fa85625ce882f617ee93", func := "scrinium/scriniumlaw08.MatrixNil", spec := "matrixNil", apart := false, narrowed := true }
def MatrixNilUptoSaid : Prop := matrixNilUptoRow.holds Try.pinned (OpenSpec.upto matrixNilSpec)

/-- 'scriniumlaw09.RsLess', WHERE WHAT IT READS IS OF BULK AT MOST 1048576: true; the input reads as it did. -/
def rsLessUptoRow : OpenClaim := { program := "ytoijjlpkoniipaa", sum := "0a8413f8e42d4a45881403dd83299273776d5976ee50fa85625ce882f617ee93", func := "scrinium/scriniumlaw09.RsLess", spec := "rsLess", unfollowed := true, recurses := true, apart := false, narrowed := true }
def RsLessUptoSaid : Prop := rsLessUptoRow.holds Try.pinned (OpenSpec.upto rsLessSpec)

/-- 'scriniumlaw09.RsLinear', WHERE WHAT IT READS IS OF BULK AT MOST 1048576: true; the input reads as it did. -/
def rsLinearUptoRow : OpenClaim := { program := "ytoijjlpkoniipaa", sum := "0a8413f8e42d4a45881403dd83299273776d5976ee50fa85625ce882f617ee93", func := "scrinium/scriniumlaw09.RsLinear", spec := "rsLinear", unfollowed := true, recurses := true, apart := false, narrowed := true }
def RsLinearUptoSaid : Prop := rsLinearUptoRow.holds Try.pinned (OpenSpec.upto rsLinearSpec)

/-- 'scriniumlaw09.RsDecode', WHERE WHAT IT READS IS OF BULK AT MOST 1048576: true; the input reads as it did. -/
def rsDecodeUptoRow : OpenClaim := { program := "ytoijjlpkoniipaa", sum := "0a8413f8e42d4a45881403dd83299273776d5976ee50fa85625ce882f617ee93", func := "scrinium/scriniumlaw09.RsDecode", spec := "rsDecode", unfollowed := true, recurses := true, apart := false, narrowed := true }
def RsDecodeUptoSaid : Prop := rsDecodeUptoRow.holds Try.pinned (OpenSpec.upto rsDecodeSpec)

/-- 'scriniumlaw09.RsAny', WHERE WHAT IT READS IS OF BULK AT MOST 1048576: true; the input reads as it did. -/
def rsAnyUptoRow : OpenClaim := { program := "ytoijjlpkoniipaa", sum := "0a8413f8e42d4a45881403dd83299273776d5976ee50fa85625ce882f617ee93", func := "scrinium/scriniumlaw09.RsAny", spec := "rsAny", unfollowed := true, recurses := true, apart := false, narrowed := true }
def RsAnyUptoSaid : Prop := rsAnyUptoRow.holds Try.pinned (OpenSpec.upto rsAnySpec)

end Rows
end Go.Proofs.Ytoijjlpkoniipaa
