/-
  The reference's parser.
  Conditions: none.
-/
import Derived.Test.YtabhiapifcanoaaGreatDoorEDB1
set_option linter.unusedVariables false
set_option linter.unusedSimpArgs false
set_option linter.unusedSectionVars false
set_option linter.unnecessarySimpa false
set_option maxRecDepth 8000
namespace Go.Proofs.YtabhiapifcanoaaGreatDoor
open Go Go.Dv
open Go.Vc (D shrI xorI andI)
def PB (L : List Tok) (s : PS) : List C := [.sl L.length (L.flatMap Tok.row) none, .v (.int .i64 s.a), .v (.bool s.b)]
def nxT (L : List Tok) (s : PS) (k : Nat) : Tok := (tkAt L s k).getD ⟨0, ⟨#[]⟩, 0⟩
theorem nx_text (L : List Tok) (s : PS) : (nxT L s 0).text = textAt L s := by
 unfold nxT textAt
 cases tkAt L s 0 with
 | none => rfl
 | some t => rfl
theorem nx_small {L : List Tok} (hL : L.length ≤ 1048576) (hT : ∀ t ∈ L, t.text.size ≤ 1048576) (s : PS) (k : Nat) : (nxT L s k).text.size ≤ 1048576 := by
 unfold nxT
 cases h : tkAt L s k with
 | none => exact Nat.zero_le _
 | some t =>
  unfold tkAt at h
  split at h
  ·cases h
  ·exact hT t (List.mem_of_getElem? h)
theorem tkT (s : PS) : tkIf true s = adv s := rfl
theorem tkF (s : PS) : tkIf false s = s := rfl
theorem muT (s : PS) : must true s = adv s := rfl
theorem muF (s : PS) : must false s = fl s := rfl
theorem text_small {L : List Tok} (hL : L.length ≤ 1048576) (hT : ∀ t ∈ L, t.text.size ≤ 1048576) (s : PS) : (textAt L s).size ≤ 1048576 := by
 rw [← nx_text]; exact nx_small hL hT s 0
theorem adv_le {L : List Tok} {s : PS} (h : s.b = false ∧ s.a < L.length) : (adv s).a ≤ L.length := h.2
theorem mt_yes {L : List Tok} {s : PS} {k : Int} (h : isK L s k = true) : mText L k s = (textAt L s, adv s) := by rw [mText, if_pos h]
theorem bae : ByteArray.empty = ⟨#[]⟩ := rfl
theorem rW : type_of% (And.intro @bae (And.intro @PB.eq_1 (And.intro @mLit.eq_1 (And.intro @mCol.eq_1 (And.intro @mKids.eq_1 (And.intro @mUn.eq_1 (And.intro @mBin.eq_1 (And.intro @zExpr.eq_1 (And.intro @zVal.eq_1 (And.intro @z0.eq_1 (And.intro @Expr.row_mk (And.intro @Query.row_mk (And.intro @List.flatMap_nil.{0,0} (And.intro @List.flatMap_cons.{0,0} (And.intro @List.append_nil.{0} (And.intro @List.length_nil.{0} @List.length_cons.{0})))))))))))))))) := And.intro @bae (And.intro @PB.eq_1 (And.intro @mLit.eq_1 (And.intro @mCol.eq_1 (And.intro @mKids.eq_1 (And.intro @mUn.eq_1 (And.intro @mBin.eq_1 (And.intro @zExpr.eq_1 (And.intro @zVal.eq_1 (And.intro @z0.eq_1 (And.intro @Expr.row_mk (And.intro @Query.row_mk (And.intro @List.flatMap_nil.{0,0} (And.intro @List.flatMap_cons.{0,0} (And.intro @List.append_nil.{0} (And.intro @List.length_nil.{0} @List.length_cons.{0})))))))))))))))
def atS (Lo : Ob) : Nat := match Go.Dv.look Lo 9000 with | some (.str [_, .v (.int _ a), _]) => a.toNat | _ => 0
end Go.Proofs.YtabhiapifcanoaaGreatDoor
