/-
  What is printed is read again.
  Conditions: none.
-/
import Derived.Test.YtoegnikpokgbfaaGreatDoorETJ1
set_option linter.unusedVariables false
set_option linter.unusedSimpArgs false
set_option linter.unusedSectionVars false
set_option maxRecDepth 8000
namespace Go.Proofs.YtoegnikpokgbfaaGreatDoor
open Go Go.Dv
open Go.Vc (D shrI xorI andI)
section
variable {L1 L2 : List Tok} {k : Nat}
def Ag (k : Nat) (L1 L2 : List Tok) : Prop := ∀ i, i < k → L1[i]? = L2[i]?
def LcM {α : Type} (k : Nat) (m1 m2 : PM α) : Prop := ∀ s x s1 r, m1 s = some (x, s1) → s1.a < k → m2 s = some r → r = (x, s1)
variable (h : Ag k L1 L2)
include h
variable {f1 f2 : Nat → PM Expr} {q1 q2 : PM Query} (okf : ∀ lv, OkM (L := L1) (f1 lv)) (okq : OkM (L := L1) q1) (hf : ∀ lv, LcM k (f1 lv) (f2 lv)) (hq : LcM k q1 q2)
include okf hf
end
section
variable {L : List Tok}
def hd (L : List Tok) (a : Nat) : Option (Int × ByteArray) := L[a]?.map fun t => (t.kind, t.text)
def Has (L : List Tok) : Nat → List Tok → Prop
 | _, [] => True
 | a, t :: r => hd L a = some (t.kind, t.text) ∧ Has L (a + 1) r
abbrev P0 (a : Nat) : PS := ⟨a, false⟩
end
def Fs (l : List Tok) (n : Int) : Prop := ∀ L a, Has L a l → hd L a ≠ some (1, kw 1) ∧ hd L a ≠ some (5, ⟨#[42]⟩) ∧ (hd L (a + l.length) ≠ some (5, ⟨#[46]⟩) → starN L (P0 a) = false) ∧ (4 ≤ n → hd L a ≠ some (1, kw 15)) ∧ hd L a ≠ some (1, kw 2)
def tb (t : Tok) : List UInt8 := (tokT t).data.toList
section
variable {L : List Tok}
def sq {α : Type} (p0 : List Tok) (pr : α → List Tok) (l : List α) : List Tok := seqN (fun i => (if i = 0 then p0 else [cmT]) ++ atL l pr i) l.length
end
end Go.Proofs.YtoegnikpokgbfaaGreatDoor
