/-
  Trees in order, second half.
  Conditions: none.
-/
import Derived.Test.YtoegnikpokgbfaaGreatDoorETF1
set_option linter.unusedVariables false
set_option linter.unusedSimpArgs false
set_option linter.unusedSectionVars false
set_option maxRecDepth 8000
namespace Go.Proofs.YtoegnikpokgbfaaGreatDoor
open Go Go.Dv
open Go.Vc (D shrI xorI andI)
def gT (s : ByteArray) : Tok := ⟨5, s, 0⟩
def iT (n : Int) : Tok := ⟨3, itoaB n, 0⟩
def cmT : Tok := gT ⟨#[44]⟩
def opTk (op : Int) : Tok := ⟨if op = 1 ∨ op = 2 ∨ op = 15 then 1 else 5, opT op, 0⟩
def seqN (f : Nat → List Tok) (n : Nat) : List Tok := (List.range n).flatMap f
def atL {α : Type} (l : List α) (h : α → List Tok) (i : Nat) : List Tok := match l[i]? with | some x => h x | none => []
end Go.Proofs.YtoegnikpokgbfaaGreatDoor
