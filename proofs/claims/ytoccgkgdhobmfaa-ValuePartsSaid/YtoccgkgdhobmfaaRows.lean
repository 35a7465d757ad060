/-
  NARROWER THAN 'FOR EVERY INPUT', by the rows' own cells (each row's printed sentence says how): ValueTypes: loops · ValueValid: loops · ValueOrders: loops · ValueZeros: loops · ValueCodes: loops.
  DERIVED. THE GIVEN ROWS OF THIS SEAT. 12 by the template 'for every input the law returns true; each argument reads behind the call as it read before'; 0 by the template 'total and deterministic' (their statements: YtoccgkgdhobmfaaTotals.lean).
  GIVEN WITH THE SEED: the statements are not yours to turn. If you find one false, say at which input.
  Laid BY PROGRAM, IN A SANDBOX (cutbox-rows.mjs): the forced cells as the released guide's own fill.sh prints them over the translation de4ff5e237dea345… (all of the seat's roots in one cut). By AI agents, Wed Nov 11 2026. No macro, syntax, notation, axiom, sorry.
-/
import Derived.Test.YtoccgkgdhobmfaaChecked
import GoSem.Claim
import GoSem.ClaimJoined
import GoSem.ClaimMapViews
import Derived.JoinedTies
import Derived.KernelRfl
namespace Go.Proofs.Ytoccgkgdhobmfaa
/- THE CELL 'sum', in the pinned program and in every row, IS THE sha256 OF THE DUMP (.gsa) THAT YtoccgkgdhobmfaaProg.lean LOADS. Nothing in Lean hashes anything: it is a label: what it is worth is what the hold of that sum in a sandbox is worth. -/
noncomputable def Try.pinned : Pinned := { name := "ytoccgkgdhobmfaa", sum := "de4ff5e237dea34542447c1088d1909eae0741318905686b37bd51463d092387", checked := Try.checked }
namespace Rows
def none {H : Type} : Left H := { results := [], args := [] }

/-- 'splicerylaw11.EvalNames': WHATEVER THE INPUT: true; the input reads as it did. -/
def evalNamesSpec : ChangeSpec := { name := "evalNames", fn := fun _ => fun
  | [d1, d2, d3, d4] => { results := [.lit (.bool true)], args := [d1, d2, d3, d4] }
  | _ => none }
def evalNamesRow : OpenClaim := { program := "ytoccgkgdhobmfaa", sum := "de4ff5e237dea34542447c1088d1909eae0741318905686b37bd51463d092387", func := "splicery/splicerylaw11.EvalNames", spec := "evalNames", unfollowed := true, recurses := true, plainKeys := false, apart := false }
def EvalNamesSaid : Prop := evalNamesRow.holds Try.pinned (OpenSpec.ofChange evalNamesSpec)

/-- ITS FALSE NEIGHBOUR: 'it returns false'. Refute it at one input. -/
def evalNamesWrong : ChangeSpec := { name := "evalNames", fn := fun _ => fun
  | [d1, d2, d3, d4] => { results := [.lit (.bool false)], args := [d1, d2, d3, d4] }
  | _ => none }
def EvalNamesWrongFalsely : Prop := evalNamesRow.holds Try.pinned (OpenSpec.ofChange evalNamesWrong)

/-- 'splicerylaw11.EvalOps': WHATEVER THE INPUT: true; the input reads as it did. -/
def evalOpsSpec : ChangeSpec := { name := "evalOps", fn := fun _ => fun
  | [d1, d2, d3, d4] => { results := [.lit (.bool true)], args := [d1, d2, d3, d4] }
  | _ => none }
def evalOpsRow : OpenClaim := { program := "ytoccgkgdhobmfaa", sum := "de4ff5e237dea34542447c1088d1909eae0741318905686b37bd51463d092387", func := "splicery/splicerylaw11.EvalOps", spec := "evalOps", unfollowed := true, recurses := true, plainKeys := false, apart := false }
def EvalOpsSaid : Prop := evalOpsRow.holds Try.pinned (OpenSpec.ofChange evalOpsSpec)

/-- ITS FALSE NEIGHBOUR: 'it returns false'. Refute it at one input. -/
def evalOpsWrong : ChangeSpec := { name := "evalOps", fn := fun _ => fun
  | [d1, d2, d3, d4] => { results := [.lit (.bool false)], args := [d1, d2, d3, d4] }
  | _ => none }
def EvalOpsWrongFalsely : Prop := evalOpsRow.holds Try.pinned (OpenSpec.ofChange evalOpsWrong)

/-- 'splicerylaw11.EvalNumbers': WHATEVER THE INPUT: true; the input reads as it did. -/
def evalNumbersSpec : ChangeSpec := { name := "evalNumbers", fn := fun _ => fun
  | [d1, d2] => { results := [.lit (.bool true)], args := [d1, d2] }
  | _ => none }
def evalNumbersRow : OpenClaim := { program := "ytoccgkgdhobmfaa", sum := "de4ff5e237dea34542447c1088d1909eae0741318905686b37bd51463d092387", func := "splicery/splicerylaw11.EvalNumbers", spec := "evalNumbers", unfollowed := true, recurses := true, plainKeys := false, apart := false }
def EvalNumbersSaid : Prop := evalNumbersRow.holds Try.pinned (OpenSpec.ofChange evalNumbersSpec)

/-- ITS FALSE NEIGHBOUR: 'it returns false'. Refute it at one input. -/
def evalNumbersWrong : ChangeSpec := { name := "evalNumbers", fn := fun _ => fun
  | [d1, d2] => { results := [.lit (.bool false)], args := [d1, d2] }
  | _ => none }
def EvalNumbersWrongFalsely : Prop := evalNumbersRow.holds Try.pinned (OpenSpec.ofChange evalNumbersWrong)

/-- 'splicerylaw11.EvalMost': WHATEVER THE INPUT: true; the input reads as it did. -/
def evalMostSpec : ChangeSpec := { name := "evalMost", fn := fun _ => fun
  | [d1, d2] => { results := [.lit (.bool true)], args := [d1, d2] }
  | _ => none }
def evalMostRow : OpenClaim := { program := "ytoccgkgdhobmfaa", sum := "de4ff5e237dea34542447c1088d1909eae0741318905686b37bd51463d092387", func := "splicery/splicerylaw11.EvalMost", spec := "evalMost", unfollowed := true, recurses := true, plainKeys := false, apart := false }
def EvalMostSaid : Prop := evalMostRow.holds Try.pinned (OpenSpec.ofChange evalMostSpec)

/-- ITS FALSE NEIGHBOUR: 'it returns false'. Refute it at one input. -/
def evalMostWrong : ChangeSpec := { name := "evalMost", fn := fun _ => fun
  | [d1, d2] => { results := [.lit (.bool false)], args := [d1, d2] }
  | _ => none }
def EvalMostWrongFalsely : Prop := evalMostRow.holds Try.pinned (OpenSpec.ofChange evalMostWrong)

/-- 'splicerylaw04.ValueTypes': WHATEVER THE INPUT: true; the input reads as it did. -/
def valueTypesSpec : ChangeSpec := { name := "valueTypes", fn := fun _ => fun
  | [d1, d2, d3, d4, d5, d6] => { results := [.lit (.bool true)], args := [d1, d2, d3, d4, d5, d6] }
  | _ => none }
def valueTypesRow : OpenClaim := { program := "ytoccgkgdhobmfaa", sum := "de4ff5e237dea34542447c1088d1909eae0741318905686b37bd51463d092387", func := "splicery/splicerylaw04.ValueTypes", spec := "valueTypes", unfollowed := true, recurses := true, loops := true, plainKeys := false, apart := false }
def ValueTypesSaid : Prop := valueTypesRow.holds Try.pinned (OpenSpec.ofChange valueTypesSpec)

/-- ITS FALSE NEIGHBOUR: 'it returns false'. Refute it at one input. -/
def valueTypesWrong : ChangeSpec := { name := "valueTypes", fn := fun _ => fun
  | [d1, d2, d3, d4, d5, d6] => { results := [.lit (.bool false)], args := [d1, d2, d3, d4, d5, d6] }
  | _ => none }
def ValueTypesWrongFalsely : Prop := valueTypesRow.holds Try.pinned (OpenSpec.ofChange valueTypesWrong)

/-- 'splicerylaw04.ValueValid': WHATEVER THE INPUT: true; the input reads as it did. -/
def valueValidSpec : ChangeSpec := { name := "valueValid", fn := fun _ => fun
  | [d1, d2, d3, d4, d5, d6, d7, d8] => { results := [.lit (.bool true)], args := [d1, d2, d3, d4, d5, d6, d7, d8] }
  | _ => none }
def valueValidRow : OpenClaim := { program := "ytoccgkgdhobmfaa", sum := "de4ff5e237dea34542447c1088d1909eae0741318905686b37bd51463d092387", func := "splicery/splicerylaw04.ValueValid", spec := "valueValid", unfollowed := true, recurses := true, loops := true, plainKeys := false, apart := false }
def ValueValidSaid : Prop := valueValidRow.holds Try.pinned (OpenSpec.ofChange valueValidSpec)

/-- ITS FALSE NEIGHBOUR: 'it returns false'. Refute it at one input. -/
def valueValidWrong : ChangeSpec := { name := "valueValid", fn := fun _ => fun
  | [d1, d2, d3, d4, d5, d6, d7, d8] => { results := [.lit (.bool false)], args := [d1, d2, d3, d4, d5, d6, d7, d8] }
  | _ => none }
def ValueValidWrongFalsely : Prop := valueValidRow.holds Try.pinned (OpenSpec.ofChange valueValidWrong)

/-- 'splicerylaw04.ValueOrders': WHATEVER THE INPUT: true; the input reads as it did. -/
def valueOrdersSpec : ChangeSpec := { name := "valueOrders", fn := fun _ => fun
  | [d1, d2, d3, d4, d5] => { results := [.lit (.bool true)], args := [d1, d2, d3, d4, d5] }
  | _ => none }
def valueOrdersRow : OpenClaim := { program := "ytoccgkgdhobmfaa", sum := "de4ff5e237dea34542447c1088d1909eae0741318905686b37bd51463d092387", func := "splicery/splicerylaw04.ValueOrders", spec := "valueOrders", unfollowed := true, recurses := true, loops := true, plainKeys := false, apart := false }
def ValueOrdersSaid : Prop := valueOrdersRow.holds Try.pinned (OpenSpec.ofChange valueOrdersSpec)

/-- ITS FALSE NEIGHBOUR: 'it returns false'. Refute it at one input. -/
def valueOrdersWrong : ChangeSpec := { name := "valueOrders", fn := fun _ => fun
  | [d1, d2, d3, d4, d5] => { results := [.lit (.bool false)], args := [d1, d2, d3, d4, d5] }
  | _ => none }
def ValueOrdersWrongFalsely : Prop := valueOrdersRow.holds Try.pinned (OpenSpec.ofChange valueOrdersWrong)

/-- 'splicerylaw04.ValueZeros': WHATEVER THE INPUT: true; the input reads as it did. -/
def valueZerosSpec : ChangeSpec := { name := "valueZeros", fn := fun _ => fun
  | [d1, d2, d3, d4, d5] => { results := [.lit (.bool true)], args := [d1, d2, d3, d4, d5] }
  | _ => none }
def valueZerosRow : OpenClaim := { program := "ytoccgkgdhobmfaa", sum := "de4ff5e237dea34542447c1088d1909eae0741318905686b37bd51463d092387", func := "splicery/splicerylaw04.ValueZeros", spec := "valueZeros", unfollowed := true, recurses := true, loops := true, plainKeys := false, apart := false }
def ValueZerosSaid : Prop := valueZerosRow.holds Try.pinned (OpenSpec.ofChange valueZerosSpec)

/-- ITS FALSE NEIGHBOUR: 'it returns false'. Refute it at one input. -/
def valueZerosWrong : ChangeSpec := { name := "valueZeros", fn := fun _ => fun
  | [d1, d2, d3, d4, d5] => { results := [.lit (.bool false)], args := [d1, d2, d3, d4, d5] }
  | _ => none }
def ValueZerosWrongFalsely : Prop := valueZerosRow.holds Try.pinned (OpenSpec.ofChange valueZerosWrong)

/-- 'splicerylaw04.ValueCodes': WHATEVER THE INPUT: true; the input reads as it did. -/
def valueCodesSpec : ChangeSpec := { name := "valueCodes", fn := fun _ => fun
  | [d1, d2, d3, d4, d5, d6, d7] => { results := [.lit (.bool true)], args := [d1, d2, d3, d4, d5, d6, d7] }
  | _ => none }
def valueCodesRow : OpenClaim := { program := "ytoccgkgdhobmfaa", sum := "de4ff5e237dea34542447c1088d1909eae0741318905686b37bd51463d092387", func := "splicery/splicerylaw04.ValueCodes", spec := "valueCodes", unfollowed := true, recurses := true, loops := true, plainKeys := false, apart := false }
def ValueCodesSaid : Prop := valueCodesRow.holds Try.pinned (OpenSpec.ofChange valueCodesSpec)

/-- ITS FALSE NEIGHBOUR: 'it returns false'. Refute it at one input. -/
def valueCodesWrong : ChangeSpec := { name := "valueCodes", fn := fun _ => fun
  | [d1, d2, d3, d4, d5, d6, d7] => { results := [.lit (.bool false)], args := [d1, d2, d3, d4, d5, d6, d7] }
  | _ => none }
def ValueCodesWrongFalsely : Prop := valueCodesRow.holds Try.pinned (OpenSpec.ofChange valueCodesWrong)

/-- 'splicerylaw04.ValueParts': WHATEVER THE INPUT: true; the input reads as it did. -/
def valuePartsSpec : ChangeSpec := { name := "valueParts", fn := fun _ => fun
  | [d1, d2, d3, d4] => { results := [.lit (.bool true)], args := [d1, d2, d3, d4] }
  | _ => none }
def valuePartsRow : OpenClaim := { program := "ytoccgkgdhobmfaa", sum := "de4ff5e237dea34542447c1088d1909eae0741318905686b37bd51463d092387", func := "splicery/splicerylaw04.ValueParts", spec := "valueParts", unfollowed := true, recurses := true, plainKeys := false, apart := false }
def ValuePartsSaid : Prop := valuePartsRow.holds Try.pinned (OpenSpec.ofChange valuePartsSpec)

/-- ITS FALSE NEIGHBOUR: 'it returns false'. Refute it at one input. -/
def valuePartsWrong : ChangeSpec := { name := "valueParts", fn := fun _ => fun
  | [d1, d2, d3, d4] => { results := [.lit (.bool false)], args := [d1, d2, d3, d4] }
  | _ => none }
def ValuePartsWrongFalsely : Prop := valuePartsRow.holds Try.pinned (OpenSpec.ofChange valuePartsWrong)

/-- 'splicerylaw11.EvalFuel': WHATEVER THE INPUT: true; the input reads as it did. -/
def evalFuelSpec : ChangeSpec := { name := "evalFuel", fn := fun _ => fun
  | [d1, d2, d3, d4] => { results := [.lit (.bool true)], args := [d1, d2, d3, d4] }
  | _ => none }
def evalFuelRow : OpenClaim := { program := "ytoccgkgdhobmfaa", sum := "de4ff5e237dea34542447c1088d1909eae0741318905686b37bd51463d092387", func := "splicery/splicerylaw11.EvalFuel", spec := "evalFuel", unfollowed := true, recurses := true, plainKeys := false, apart := false }
def EvalFuelSaid : Prop := evalFuelRow.holds Try.pinned (OpenSpec.ofChange evalFuelSpec)

/-- ITS FALSE NEIGHBOUR: 'it returns false'. Refute it at one input. -/
def evalFuelWrong : ChangeSpec := { name := "evalFuel", fn := fun _ => fun
  | [d1, d2, d3, d4] => { results := [.lit (.bool false)], args := [d1, d2, d3, d4] }
  | _ => none }
def EvalFuelWrongFalsely : Prop := evalFuelRow.holds Try.pinned (OpenSpec.ofChange evalFuelWrong)

/-- 'splicerylaw11.EvalSound': WHATEVER THE INPUT: true; the input reads as it did. -/
def evalSoundSpec : ChangeSpec := { name := "evalSound", fn := fun _ => fun
  | [d1, d2, d3, d4] => { results := [.lit (.bool true)], args := [d1, d2, d3, d4] }
  | _ => none }
def evalSoundRow : OpenClaim := { program := "ytoccgkgdhobmfaa", sum := "de4ff5e237dea34542447c1088d1909eae0741318905686b37bd51463d092387", func := "splicery/splicerylaw11.EvalSound", spec := "evalSound", unfollowed := true, recurses := true, plainKeys := false, apart := false }
def EvalSoundSaid : Prop := evalSoundRow.holds Try.pinned (OpenSpec.ofChange evalSoundSpec)

/-- ITS FALSE NEIGHBOUR: 'it returns false'. Refute it at one input. -/
def evalSoundWrong : ChangeSpec := { name := "evalSound", fn := fun _ => fun
  | [d1, d2, d3, d4] => { results := [.lit (.bool false)], args := [d1, d2, d3, d4] }
  | _ => none }
def EvalSoundWrongFalsely : Prop := evalSoundRow.holds Try.pinned (OpenSpec.ofChange evalSoundWrong)

/- THE SECOND FORM. 'bulk': how many values and letters a reading holds, each counted each time it is reached (what is shared counts as often as it is met; a slice's spare places count too). A statement '..UptoSaid' is the law's where the arguments, and the package variables that the reading takes, are together of bulk at most 1048576: NARROWER than '..Said'. Prove '..Said' where nothing that the law and all that it calls make is longer than what came in: it says more and counts as full. Else prove '..UptoSaid'. A law counts once. -/
mutual
def uptoBulk {H : Type} : DataW H → Nat
  | .lit (.string bytes) => bytes.length + 1
  | .lit _ => 1
  | .nil => 1
  | .ptr d => uptoBulk d + 1
  | .slice elems spare => uptoBulkAll elems + uptoBulkAll spare + 1
  | .agg parts => uptoBulkAll parts + 1
  | .iface _ d => uptoBulk d + 1
  | .map entries => uptoBulkEntries entries + 1
  | .held _ => 1
def uptoBulkAll {H : Type} : List (DataW H) → Nat
  | [] => 0
  | d :: r => uptoBulk d + uptoBulkAll r
def uptoBulkEntries {H : Type} : List (Lit × DataW H) → Nat
  | [] => 0
  | x :: r => uptoBulkEntry x + uptoBulkEntries r
def uptoBulkEntry {H : Type} : Lit × DataW H → Nat
  | (.string bytes, d) => bytes.length + uptoBulk d + 1
  | (_, d) => uptoBulk d + 1
 end
def uptoSmall : (H : Type) → List (DataW H) → Bool := fun _ ds => decide (uptoBulkAll ds ≤ 1048576)
def OpenSpec.upto (s : _root_.Go.ChangeSpec) : _root_.Go.OpenSpec := { _root_.Go.OpenSpec.ofChange s with cond := some uptoSmall }

/-- 'splicerylaw11.EvalNames', WHERE WHAT IT READS IS OF BULK AT MOST 1048576: true; the input reads as it did. -/
def evalNamesUptoRow : OpenClaim := { program := "ytoccgkgdhobmfaa", sum := "de4ff5e237dea34542447c1088d1909eae0741318905686b37bd51463d092387", func := "splicery/splicerylaw11.EvalNames", spec := "evalNames", unfollowed := true, recurses := true, plainKeys := false, apart := false, narrowed := true }
def EvalNamesUptoSaid : Prop := evalNamesUptoRow.holds Try.pinned (OpenSpec.upto evalNamesSpec)

/-- 'splicerylaw11.EvalOps', WHERE WHAT IT READS IS OF BULK AT MOST 1048576: true; the input reads as it did. -/
def evalOpsUptoRow : OpenClaim := { program := "ytoccgkgdhobmfaa", sum := "de4ff5e237dea34542447c1088d1909eae0741318905686b37bd51463d092387", func := "splicery/splicerylaw11.EvalOps", spec := "evalOps", unfollowed := true, recurses := true, plainKeys := false, apart := false, narrowed := true }
def EvalOpsUptoSaid : Prop := evalOpsUptoRow.holds Try.pinned (OpenSpec.upto evalOpsSpec)

/-- 'splicerylaw11.EvalNumbers', WHERE WHAT IT READS IS OF BULK AT MOST 1048576: true; the input reads as it did. -/
def evalNumbersUptoRow : OpenClaim := { program := "ytoccgkgdhobmfaa", sum := "de4ff5e237dea34542447c1088d1909eae0741318905686b37bd51463d092387", func := "splicery/splicerylaw11.EvalNumbers", spec := "evalNumbers", unfollowed := true, recurses := true, plainKeys := false, apart := false, narrowed := true }
def EvalNumbersUptoSaid : Prop := evalNumbersUptoRow.holds Try.pinned (OpenSpec.upto evalNumbersSpec)

/-- 'splicerylaw11.EvalMost', WHERE WHAT IT READS IS OF BULK AT MOST 1048576: true; the input reads as it did. -/
def evalMostUptoRow : OpenClaim := { program := "ytoccgkgdhobmfaa", sum := "de4ff5e237dea34542447c1088d1909eae0741318905686b37bd51463d092387", func := "splicery/splicerylaw11.EvalMost", spec := "evalMost", unfollowed := true, recurses := true, plainKeys := false, apart := false, narrowed := true }
def EvalMostUptoSaid : Prop := evalMostUptoRow.holds Try.pinned (OpenSpec.upto evalMostSpec)

/-- 'splicerylaw04.ValueTypes', WHERE WHAT IT READS IS OF BULK AT MOST 1048576: true; the input reads as it did. -/
def valueTypesUptoRow : OpenClaim := { program := "ytoccgkgdhobmfaa", sum := "de4ff5e237dea34542447c1088d1909eae0741318905686b37bd51463d092387", func := "splicery/splicerylaw04.ValueTypes", spec := "valueTypes", unfollowed := true, recurses := true, loops := true, plainKeys := false, apart := false, narrowed := true }
def ValueTypesUptoSaid : Prop := valueTypesUptoRow.holds Try.pinned (OpenSpec.upto valueTypesSpec)

/-- 'splicerylaw04.ValueValid', WHERE WHAT IT READS IS OF BULK AT MOST 1048576: true; the input reads as it did. -/
def valueValidUptoRow : OpenClaim := { program := "ytoccgkgdhobmfaa", sum := "de4ff5e237dea34542447c1088d1909eae0741318905686b37bd51463d092387", func := "splicery/splicerylaw04.ValueValid", spec := "valueValid", unfollowed := true, recurses := true, loops := true, plainKeys := false, apart := false, narrowed := true }
def ValueValidUptoSaid : Prop := valueValidUptoRow.holds Try.pinned (OpenSpec.upto valueValidSpec)

/-- 'splicerylaw04.ValueOrders', WHERE WHAT IT READS IS OF BULK AT MOST 1048576: true; the input reads as it did. -/
def valueOrdersUptoRow : OpenClaim := { program := "ytoccgkgdhobmfaa", sum := "de4ff5e237dea34542447c1088d1909eae0741318905686b37bd51463d092387", func := "splicery/splicerylaw04.ValueOrders", spec := "valueOrders", unfollowed := true, recurses := true, loops := true, plainKeys := false, apart := false, narrowed := true }
def ValueOrdersUptoSaid : Prop := valueOrdersUptoRow.holds Try.pinned (OpenSpec.upto valueOrdersSpec)

/-- 'splicerylaw04.ValueZeros', WHERE WHAT IT READS IS OF BULK AT MOST 1048576: true; the input reads as it did. -/
def valueZerosUptoRow : OpenClaim := { program := "ytoccgkgdhobmfaa", sum := "de4ff5e237dea34542447c1088d1909eae0741318905686b37bd51463d092387", func := "splicery/splicerylaw04.ValueZeros", spec := "valueZeros", unfollowed := true, recurses := true, loops := true, plainKeys := false, apart := false, narrowed := true }
def ValueZerosUptoSaid : Prop := valueZerosUptoRow.holds Try.pinned (OpenSpec.upto valueZerosSpec)

/-- 'splicerylaw04.ValueCodes', WHERE WHAT IT READS IS OF BULK AT MOST 1048576: true; the input reads as it did. -/
def valueCodesUptoRow : OpenClaim := { program := "ytoccgkgdhobmfaa", sum := "de4ff5e237dea34542447c1088d1909eae0741318905686b37bd51463d092387", func := "splicery/splicerylaw04.ValueCodes", spec := "valueCodes", unfollowed := true, recurses := true, loops := true, plainKeys := false, apart := false, narrowed := true }
def ValueCodesUptoSaid : Prop := valueCodesUptoRow.holds Try.pinned (OpenSpec.upto valueCodesSpec)

/-- 'splicerylaw04.ValueParts', WHERE WHAT IT READS IS OF BULK AT MOST 1048576: true; the input reads as it did. -/
def valuePartsUptoRow : OpenClaim := { program := "ytoccgkgdhobmfaa", sum := "de4ff5e237dea34542447c1088d1909eae0741318905686b37bd51463d092387", func := "splicery/splicerylaw04.ValueParts", spec := "valueParts", unfollowed := true, recurses := true, plainKeys := false, apart := false, narrowed := true }
def ValuePartsUptoSaid : Prop := valuePartsUptoRow.holds Try.pinned (OpenSpec.upto valuePartsSpec)

/-- 'splicerylaw11.EvalFuel', WHERE WHAT IT READS IS OF BULK AT MOST 1048576: true; the input reads as it did. -/
def evalFuelUptoRow : OpenClaim := { program := "ytoccgkgdhobmfaa", sum := "de4ff5e237dea34542447c1088d1909eae0741318905686b37bd51463d092387", func := "splicery/splicerylaw11.EvalFuel", spec := "evalFuel", unfollowed := true, recurses := true, plainKeys := false, apart := false, narrowed := true }
def EvalFuelUptoSaid : Prop := evalFuelUptoRow.holds Try.pinned (OpenSpec.upto evalFuelSpec)

/-- 'splicerylaw11.EvalSound', WHERE WHAT IT READS IS OF BULK AT MOST 1048576: true; the input reads as it did. -/
def evalSoundUptoRow : OpenClaim := { program := "ytoccgkgdhobmfaa", sum := "de4ff5e237dea34542447c1088d1909eae0741318905686b37bd51463d092387", func := "splicery/splicerylaw11.EvalSound", spec := "evalSound", unfollowed := true, recurses := true, plainKeys := false, apart := false, narrowed := true }
def EvalSoundUptoSaid : Prop := evalSoundUptoRow.holds Try.pinned (OpenSpec.upto evalSoundSpec)

end Rows
end Go.Proofs.Ytoccgkgdhobmfaa
