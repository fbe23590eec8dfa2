/-
  NARROWER THAN 'FOR EVERY INPUT', by the rows' own cells (each row's printed sentence says how): FnExactNots: loops · FnExactPositive: loops · FnExactPositivePlan: loops.
  DERIVED. THE GIVEN ROWS OF THIS SEAT. 7 by the template 'for every input the law returns true; each argument reads behind the call as it read before'; 0 by the template 'total and deterministic' (their statements: YtklligemdfnimaaTotals.lean).
  GIVEN WITH THE SEED: the statements are not yours to turn. If you find one false, say at which input.
  Laid BY PROGRAM, IN A SANDBOX (cutbox-rows.mjs): the forced cells as the released guide's own fill.sh prints them over the translation 37da7bd14f8a6797… (all of the seat's roots in one cut). By AI agents, Wed Nov 11 2026. No macro, syntax, notation, axiom, sorry.
-/
import Derived.Test.YtklligemdfnimaaChecked
import GoSem.Claim
import GoSem.ClaimJoined
import GoSem.ClaimMapViews
import Derived.JoinedTies
import Derived.KernelRfl
namespace Go.Proofs.Ytklligemdfnimaa
/- THE CELL 'sum', in the pinned program and in every row, IS THE sha256 OF THE DUMP (.gsa) THAT YtklligemdfnimaaProg.lean LOADS. Nothing in Lean hashes anything: it is a label: what it is worth is what the hold of that sum in a sandbox is worth. -/
noncomputable def Try.pinned : Pinned := { name := "ytklligemdfnimaa", sum := "37da7bd14f8a6797ea14f6a90ab04547065db47a182806047dbddd006c42b09a", checked := Try.checked }
namespace Rows
def none {H : Type} : Left H := { results := [], args := [] }

/-- 'laws.FnExactAgainst': WHATEVER THE INPUT: true; the input reads as it did. -/
def fnExactAgainstSpec : ChangeSpec := { name := "fnExactAgainst", fn := fun _ => fun
  | [d] => { results := [.lit (.bool true)], args := [d] }
  | _ => none }
def fnExactAgainstRow : OpenClaim := { program := "ytklligemdfnimaa", sum := "37da7bd14f8a6797ea14f6a90ab04547065db47a182806047dbddd006c42b09a", func := "loop.example/g00495/laws.FnExactAgainst", spec := "fnExactAgainst", apart := false }
def FnExactAgainstSaid : Prop := fnExactAgainstRow.holds Try.pinned (OpenSpec.ofChange fnExactAgainstSpec)

/-- ITS FALSE NEIGHBOUR: 'it returns false'. Refute it at one input. -/
def fnExactAgainstWrong : ChangeSpec := { name := "fnExactAgainst", fn := fun _ => fun
  | [d] => { results := [.lit (.bool false)], args := [d] }
  | _ => none }
def FnExactAgainstWrongFalsely : Prop := fnExactAgainstRow.holds Try.pinned (OpenSpec.ofChange fnExactAgainstWrong)

/-- 'laws.FnExactSameResult': WHATEVER THE INPUT: true; the input reads as it did. -/
def fnExactSameResultSpec : ChangeSpec := { name := "fnExactSameResult", fn := fun _ => fun
  | [d1, d2] => { results := [.lit (.bool true)], args := [d1, d2] }
  | _ => none }
def fnExactSameResultRow : OpenClaim := { program := "ytklligemdfnimaa", sum := "37da7bd14f8a6797ea14f6a90ab04547065db47a182806047dbddd006c42b09a", func := "loop.example/g00495/laws.FnExactSameResult", spec := "fnExactSameResult", unfollowed := true, recurses := true, apart := false }
def FnExactSameResultSaid : Prop := fnExactSameResultRow.holds Try.pinned (OpenSpec.ofChange fnExactSameResultSpec)

/-- ITS FALSE NEIGHBOUR: 'it returns false'. Refute it at one input. -/
def fnExactSameResultWrong : ChangeSpec := { name := "fnExactSameResult", fn := fun _ => fun
  | [d1, d2] => { results := [.lit (.bool false)], args := [d1, d2] }
  | _ => none }
def FnExactSameResultWrongFalsely : Prop := fnExactSameResultRow.holds Try.pinned (OpenSpec.ofChange fnExactSameResultWrong)

/-- 'laws.FnAgainst': WHATEVER THE INPUT: true; the input reads as it did. -/
def fnAgainstSpec : ChangeSpec := { name := "fnAgainst", fn := fun _ => fun
  | [d] => { results := [.lit (.bool true)], args := [d] }
  | _ => none }
def fnAgainstRow : OpenClaim := { program := "ytklligemdfnimaa", sum := "37da7bd14f8a6797ea14f6a90ab04547065db47a182806047dbddd006c42b09a", func := "loop.example/g00495/laws.FnAgainst", spec := "fnAgainst", apart := false }
def FnAgainstSaid : Prop := fnAgainstRow.holds Try.pinned (OpenSpec.ofChange fnAgainstSpec)

/-- ITS FALSE NEIGHBOUR: 'it returns false'. Refute it at one input. -/
def fnAgainstWrong : ChangeSpec := { name := "fnAgainst", fn := fun _ => fun
  | [d] => { results := [.lit (.bool false)], args := [d] }
  | _ => none }
def FnAgainstWrongFalsely : Prop := fnAgainstRow.holds Try.pinned (OpenSpec.ofChange fnAgainstWrong)

/-- 'laws.FnExactNots': WHATEVER THE INPUT: true; the input reads as it did. -/
def fnExactNotsSpec : ChangeSpec := { name := "fnExactNots", fn := fun _ => fun
  | [d] => { results := [.lit (.bool true)], args := [d] }
  | _ => none }
def fnExactNotsRow : OpenClaim := { program := "ytklligemdfnimaa", sum := "37da7bd14f8a6797ea14f6a90ab04547065db47a182806047dbddd006c42b09a", func := "loop.example/g00495/laws.FnExactNots", spec := "fnExactNots", recurses := true, loops := true, apart := false }
def FnExactNotsSaid : Prop := fnExactNotsRow.holds Try.pinned (OpenSpec.ofChange fnExactNotsSpec)

/-- ITS FALSE NEIGHBOUR: 'it returns false'. Refute it at one input. -/
def fnExactNotsWrong : ChangeSpec := { name := "fnExactNots", fn := fun _ => fun
  | [d] => { results := [.lit (.bool false)], args := [d] }
  | _ => none }
def FnExactNotsWrongFalsely : Prop := fnExactNotsRow.holds Try.pinned (OpenSpec.ofChange fnExactNotsWrong)

/-- 'laws.FnPositiveTwice': WHATEVER THE INPUT: true; the input reads as it did. -/
def fnPositiveTwiceSpec : ChangeSpec := { name := "fnPositiveTwice", fn := fun _ => fun
  | [d] => { results := [.lit (.bool true)], args := [d] }
  | _ => none }
def fnPositiveTwiceRow : OpenClaim := { program := "ytklligemdfnimaa", sum := "37da7bd14f8a6797ea14f6a90ab04547065db47a182806047dbddd006c42b09a", func := "loop.example/g00495/laws.FnPositiveTwice", spec := "fnPositiveTwice", unfollowed := true, recurses := true, apart := false }
def FnPositiveTwiceSaid : Prop := fnPositiveTwiceRow.holds Try.pinned (OpenSpec.ofChange fnPositiveTwiceSpec)

/-- ITS FALSE NEIGHBOUR: 'it returns false'. Refute it at one input. -/
def fnPositiveTwiceWrong : ChangeSpec := { name := "fnPositiveTwice", fn := fun _ => fun
  | [d] => { results := [.lit (.bool false)], args := [d] }
  | _ => none }
def FnPositiveTwiceWrongFalsely : Prop := fnPositiveTwiceRow.holds Try.pinned (OpenSpec.ofChange fnPositiveTwiceWrong)

/-- 'laws.FnExactPositive': WHATEVER THE INPUT: true; the input reads as it did. -/
def fnExactPositiveSpec : ChangeSpec := { name := "fnExactPositive", fn := fun _ => fun
  | [d] => { results := [.lit (.bool true)], args := [d] }
  | _ => none }
def fnExactPositiveRow : OpenClaim := { program := "ytklligemdfnimaa", sum := "37da7bd14f8a6797ea14f6a90ab04547065db47a182806047dbddd006c42b09a", func := "loop.example/g00495/laws.FnExactPositive", spec := "fnExactPositive", unfollowed := true, recurses := true, loops := true, apart := false }
def FnExactPositiveSaid : Prop := fnExactPositiveRow.holds Try.pinned (OpenSpec.ofChange fnExactPositiveSpec)

/-- ITS FALSE NEIGHBOUR: 'it returns false'. Refute it at one input. -/
def fnExactPositiveWrong : ChangeSpec := { name := "fnExactPositive", fn := fun _ => fun
  | [d] => { results := [.lit (.bool false)], args := [d] }
  | _ => none }
def FnExactPositiveWrongFalsely : Prop := fnExactPositiveRow.holds Try.pinned (OpenSpec.ofChange fnExactPositiveWrong)

/-- 'laws.FnExactPositivePlan': WHATEVER THE INPUT: true; the input reads as it did. -/
def fnExactPositivePlanSpec : ChangeSpec := { name := "fnExactPositivePlan", fn := fun _ => fun
  | [d] => { results := [.lit (.bool true)], args := [d] }
  | _ => none }
def fnExactPositivePlanRow : OpenClaim := { program := "ytklligemdfnimaa", sum := "37da7bd14f8a6797ea14f6a90ab04547065db47a182806047dbddd006c42b09a", func := "loop.example/g00495/laws.FnExactPositivePlan", spec := "fnExactPositivePlan", unfollowed := true, recurses := true, loops := true, apart := false }
def FnExactPositivePlanSaid : Prop := fnExactPositivePlanRow.holds Try.pinned (OpenSpec.ofChange fnExactPositivePlanSpec)

/-- ITS FALSE NEIGHBOUR: 'it returns false'. Refute it at one input. -/
def fnExactPositivePlanWrong : ChangeSpec := { name := "fnExactPositivePlan", fn := fun _ => fun
  | [d] => { results := [.lit (.bool false)], args := [d] }
  | _ => none }
def FnExactPositivePlanWrongFalsely : Prop := fnExactPositivePlanRow.holds Try.pinned (OpenSpec.ofChange fnExactPositivePlanWrong)

/- THE SECOND FORM. 'bulk': how many values and letters a reading holds, each counted each time it is reached (what is shared counts as often as it is met; a slice's spare places count too). A statement '..UptoSaid' is the law's where the arguments, and the package variables that the reading takes, are together of bulk at most 1048576: NARROWER than '..Said'. Prove '..Said' where nothing that the law and all that it calls make is longer than what came in: it says more and counts as full. Else prove '..UptoSaid'. A law counts once. -/
mutual
def uptoBulk {H : Type} : DataW H → Nat
  | .lit (.string bytes) => bytes.length + 1
  | .lit _ => 1
  | .nil => 1
  | .ptr d => uptoBulk d + 1
  | .slice elems spare => uptoBulkAll elems + uptoBulkAll spare + 1
  | .agg parts => uptoBulkAll parts + 1
  | .iface _ d => uptoBulk d + 1
  | .map entries => uptoBulkEntries entries + 1
  | .held _ => 1
def uptoBulkAll {H : Type} : List (DataW H) → Nat
  | [] => 0
  | d :: r => uptoBulk d + uptoBulkAll r
def uptoBulkEntries {H : Type} : List (Lit × DataW H) → Nat
  | [] => 0
  | x :: r => uptoBulkEntry x + uptoBulkEntries r
def uptoBulkEntry {H : Type} : Lit × DataW H → Nat
  | (.string bytes, d) => bytes.length + uptoBulk d + 1
  | (_, d) => uptoBulk d + 1
 end
def uptoSmall : (H : Type) → List (DataW H) → Bool := fun _ ds => decide (uptoBulkAll ds ≤ 1048576)
def OpenSpec.upto (s : _root_.Go.ChangeSpec) : _root_.Go.OpenSpec := { _root_.Go.OpenSpec.ofChange s with cond := some uptoSmall }

/-- 'laws.FnExactAgainst', WHERE WHAT IT READS IS OF BULK AT MOST 1048576: true; the input reads as it did. -/
def fnExactAgainstUptoRow : OpenClaim := { program := "ytklligemdfnimaa", sum := "37da7bd14f8a6797ea14f6a90ab04547065db47a182806047dbddd006c42b09a", func := "loop.example/g00495/laws.FnExactAgainst", spec := "fnExactAgainst", apart := false, narrowed := true }
def FnExactAgainstUptoSaid : Prop := fnExactAgainstUptoRow.holds Try.pinned (OpenSpec.upto fnExactAgainstSpec)

/-- 'laws.FnExactSameResult', WHERE WHAT IT READS IS OF BULK AT MOST 1048576: true; the input reads as it did. -/
def fnExactSameResultUptoRow : OpenClaim := { program := "ytklligemdfnimaa", sum := "37da7bd14f8a6797ea14f6a90ab04547065db47a182806047dbddd006c42b09a", func := "loop.example/g00495/laws.FnExactSameResult", spec := "fnExactSameResult", unfollowed := true, recurses := true, apart := false, narrowed := true }
def FnExactSameResultUptoSaid : Prop := fnExactSameResultUptoRow.holds Try.pinned (OpenSpec.upto fnExactSameResultSpec)

/-- 'laws.FnAgainst', WHERE WHAT IT READS IS OF BULK AT MOST 1048576: true; the input reads as it did. -/
def fnAgainstUptoRow : OpenClaim := { program := "ytklligemdfnimaa", sum := "37da7bd14f8a6797ea14f6a90ab04547065db47a182806047dbddd006c42b09a", func := "loop.example/g00495/laws.FnAgainst", spec := "fnAgainst", apart := false, narrowed := true }
def FnAgainstUptoSaid : Prop := fnAgainstUptoRow.holds Try.pinned (OpenSpec.upto fnAgainstSpec)

/-- 'laws.FnExactNots', WHERE WHAT IT READS IS OF BULK AT MOST 1048576: true; the input reads as it did. -/
def fnExactNotsUptoRow : OpenClaim := { program := "ytklligemdfnimaa", sum := "37da7bd14f8a6797ea14f6a90ab04547065db47a182806047dbddd006c42b09a", func := "loop.example/g00495/laws.FnExactNots", spec := "fnExactNots", recurses := true, loops := true, apart := false, narrowed := true }
def FnExactNotsUptoSaid : Prop := fnExactNotsUptoRow.holds Try.pinned (OpenSpec.upto fnExactNotsSpec)

/-- 'laws.FnPositiveTwice', WHERE WHAT IT READS IS OF BULK AT MOST 1048576: true; the input reads as it did. -/
def fnPositiveTwiceUptoRow : OpenClaim := { program := "ytklligemdfnimaa", sum := "37da7bd14f8a6797ea14f6a90ab04547065db47a182806047dbddd006c42b09a", func := "loop.example/g00495/laws.FnPositiveTwice", spec := "fnPositiveTwice", unfollowed := true, recurses := true, apart := false, narrowed := true }
def FnPositiveTwiceUptoSaid : Prop := fnPositiveTwiceUptoRow.holds Try.pinned (OpenSpec.upto fnPositiveTwiceSpec)

/-- 'laws.FnExactPositive', WHERE WHAT IT READS IS OF BULK AT MOST 1048576: true; the input reads as it did. -/
def fnExactPositiveUptoRow : OpenClaim := { program := "ytklligemdfnimaa", sum := "37da7bd14f8a6797ea14f6a90ab04547065db47a182806047dbddd006c42b09a", func := "loop.example/g00495/laws.FnExactPositive", spec := "fnExactPositive", unfollowed := true, recurses := true, loops := true, apart := false, narrowed := true }
def FnExactPositiveUptoSaid : Prop := fnExactPositiveUptoRow.holds Try.pinned (OpenSpec.upto fnExactPositiveSpec)

/-- 'laws.FnExactPositivePlan', WHERE WHAT IT READS IS OF BULK AT MOST 1048576: true; the input reads as it did. -/
def fnExactPositivePlanUptoRow : OpenClaim := { program := "ytklligemdfnimaa", sum := "37da7bd14f8a6797ea14f6a90ab04547065db47a182806047dbddd006c42b09a", func := "loop.example/g00495/laws.FnExactPositivePlan", spec := "fnExactPositivePlan", unfollowed := true, recurses := true, loops := true, apart := false, narrowed := true }
def FnExactPositivePlanUptoSaid : Prop := fnExactPositivePlanUptoRow.holds Try.pinned (OpenSpec.upto fnExactPositivePlanSpec)

end Rows
end Go.Proofs.Ytklligemdfnimaa
