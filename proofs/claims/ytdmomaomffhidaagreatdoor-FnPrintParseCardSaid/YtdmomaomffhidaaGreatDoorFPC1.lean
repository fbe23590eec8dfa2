/-
  The reference's parser.
  Conditions: none.
-/
import Derived.Test.YtdmomaomffhidaaGreatDoorFPJ1
set_option linter.unusedVariables false
set_option linter.unusedSimpArgs false
set_option linter.defProp false
set_option linter.unusedSectionVars false
set_option linter.unnecessarySimpa false
set_option maxRecDepth 8000
namespace Go.Proofs.YtdmomaomffhidaaGreatDoor
open Go Go.Dv
open Go.Vc (D cU cV cF b0)
def PB (L:List Tok) (s:PS):List C:=[.sl L.length (L.flatMap Tok.row) none,.v (.int .i64 s.a),.v (.bool s.b)]
def Ji (L:List Tok) (s:PS) (k:Nat):Tok:=(ki L s k).getD ⟨0,⟨#[]⟩,0⟩
theorem EU (L:List Tok) (s:PS):(Ji L s 0).text=cK L s:=by
 unfold Ji cK
 cases ki L s 0 with
 |none=>rfl
 |some t=>rfl
theorem Cu {L:List Tok} (hL:L.length<=1048576) (hT:∀t∈L,t.text.size<=1048576) (s:PS) (k:Nat):(Ji L s k).text.size<=1048576:=by
 unfold Ji
 cases h:ki L s k with
 |none=>exact Nat.zero_le _
 |some t=>
  unfold ki at h
  split at h
  ·cases h
  ·exact hT t (List.mem_of_getElem? h)
theorem oX (s:PS):tkIf true s=adv s:=rfl
theorem oY (s:PS):tkIf false s=s:=rfl
theorem JV (s:PS):must true s=adv s:=rfl
theorem JW (s:PS):must false s=fl s:=rfl
theorem rb {L:List Tok} (hL:L.length<=1048576) (hT:∀t∈L,t.text.size<=1048576) (s:PS):(cK L s).size<=1048576:=by
 rw[<-EU];exact Cu hL hT s 0
theorem du {L:List Tok} {s:PS} (h:s.b=false/\s.a<L.length):(adv s).a<=L.length:=h.2
theorem rc {L:List Tok} {s:PS} {k:Int} (h:oT L s k=true):mText L k s=(cK L s,adv s):=by rw[mText,if_pos h]
theorem me:ByteArray.empty=⟨#[]⟩:=rfl
def rW:=ab @me (ab @PB.eq_1 (ab @f8.eq_1 (ab @sC.eq_1 (ab @dE.eq_1 (ab @pE.eq_1 (ab @km.eq_1 (ab @zExpr.eq_1 (ab @zVal.eq_1 (ab @z0.eq_1 (ab @ak (ab @bj (ab @List.flatMap_nil.{0,0} (ab @List.flatMap_cons.{0,0} (ab @List.append_nil.{0} (ab @List.length_nil.{0} @List.length_cons.{0})))))))))))))))
def IK (Lo:Ob):Nat:=match Go.Dv.look Lo 9000 with|some (.str [_,.v (.int _ a),_])=>a.toNat|_=>0
end Go.Proofs.YtdmomaomffhidaaGreatDoor
