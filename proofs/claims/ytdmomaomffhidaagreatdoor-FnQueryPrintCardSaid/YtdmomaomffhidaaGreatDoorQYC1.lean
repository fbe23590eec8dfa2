/-
  The reference's parser.
  Conditions: none.
-/
import Derived.Test.YtdmomaomffhidaaGreatDoorQYJ1
set_option linter.unusedVariables false
set_option linter.unusedSimpArgs false
set_option linter.defProp false
set_option linter.unusedSectionVars false
set_option linter.unnecessarySimpa false
set_option maxRecDepth 8000
namespace Go.Proofs.YtdmomaomffhidaaGreatDoor
open Go Go.Dv
open Go.Vc (D dm dq cV bq)
def PB (L:List Tok) (s:PS):List C:=[.sl L.length (L.flatMap Tok.row) none,.v (.int .i64 s.a),.v (.bool s.b)]
def JM (L:List Tok) (s:PS) (k:Nat):Tok:=(jC L s k).getD ⟨0,⟨#[]⟩,0⟩
theorem EW (L:List Tok) (s:PS):(JM L s 0).text=bP L s:=by
 unfold JM bP
 cases jC L s 0 with
 |none=>rfl
 |some t=>rfl
theorem CD {L:List Tok} (hL:L.length<=1048576) (hT:∀t∈L,t.text.size<=1048576) (s:PS) (k:Nat):(JM L s k).text.size<=1048576:=by
 unfold JM
 cases h:jC L s k with
 |none=>exact Nat.zero_le _
 |some t=>
  unfold jC at h
  split at h
  ·cases h
  ·exact hT t (List.mem_of_getElem? h)
theorem pn (s:PS):tkIf true s=adv s:=rfl
theorem po (s:PS):tkIf false s=s:=rfl
theorem Ks (s:PS):must true s=adv s:=rfl
theorem Kt (s:PS):must false s=fl s:=rfl
theorem rq {L:List Tok} (hL:L.length<=1048576) (hT:∀t∈L,t.text.size<=1048576) (s:PS):(bP L s).size<=1048576:=by
 rw[<-EW];exact CD hL hT s 0
theorem dy {L:List Tok} {s:PS} (h:s.b=false/\s.a<L.length):(adv s).a<=L.length:=h.2
theorem rt {L:List Tok} {s:PS} {k:Int} (h:mv L s k=true):mText L k s=(bP L s,adv s):=by rw[mText,if_pos h]
theorem pq:ByteArray.empty=⟨#[]⟩:=rfl
def rW:=ab @pq (ab @PB.eq_1 (ab @eK.eq_1 (ab @qm.eq_1 (ab @cG.eq_1 (ab @xL.eq_1 (ab @iS.eq_1 (ab @zExpr.eq_1 (ab @zVal.eq_1 (ab @z0.eq_1 (ab @am (ab @aG (ab @List.flatMap_nil.{0,0} (ab @List.flatMap_cons.{0,0} (ab @List.append_nil.{0} (ab @List.length_nil.{0} @List.length_cons.{0})))))))))))))))
def Jf (Lo:Ob):Nat:=match Go.Dv.look Lo 9000 with|some (.str [_,.v (.int _ a),_])=>a.toNat|_=>0
end Go.Proofs.YtdmomaomffhidaaGreatDoor
