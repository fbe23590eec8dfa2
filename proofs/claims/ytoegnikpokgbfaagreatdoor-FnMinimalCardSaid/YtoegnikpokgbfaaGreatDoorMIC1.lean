/-
  The reference's parser.
  Conditions: none.
-/
import Derived.Test.YtoegnikpokgbfaaGreatDoorMIB1
set_option linter.unusedVariables false
set_option linter.unusedSimpArgs false
set_option linter.defProp false
set_option linter.unusedSectionVars false
set_option linter.unnecessarySimpa false
set_option maxRecDepth 8000
namespace Go.Proofs.YtoegnikpokgbfaaGreatDoor
open Go Go.Dv
open Go.Vc (D cF cG cv aX)
def PB (L:List Tok) (s:PS):List C:=[.sl L.length (L.flatMap Tok.row) none,.v (.int .i64 s.a),.v (.bool s.b)]
def Hh (L:List Tok) (s:PS) (k:Nat):Tok:=(j9 L s k).getD ⟨0,⟨#[]⟩,0⟩
theorem C7 (L:List Tok) (s:PS):(Hh L s 0).text=bM L s:=by
 unfold Hh bM
 cases j9 L s 0 with
 |none=>rfl
 |some t=>rfl
theorem A4 {L:List Tok} (hL:L.length<=1048576) (hT:∀t∈L,t.text.size<=1048576) (s:PS) (k:Nat):(Hh L s k).text.size<=1048576:=by
 unfold Hh
 cases h:j9 L s k with
 |none=>exact Nat.zero_le _
 |some t=>
  unfold j9 at h
  split at h
  ·cases h
  ·exact hT t (List.mem_of_getElem? h)
theorem mM (s:PS):tkIf true s=adv s:=rfl
theorem mN (s:PS):tkIf false s=s:=rfl
theorem IC (s:PS):must true s=adv s:=rfl
theorem ID (s:PS):must false s=fl s:=rfl
theorem p8 {L:List Tok} (hL:L.length<=1048576) (hT:∀t∈L,t.text.size<=1048576) (s:PS):(bM L s).size<=1048576:=by
 rw[<-C7];exact A4 hL hT s 0
theorem cV {L:List Tok} {s:PS} (h:s.b=false/\s.a<L.length):(adv s).a<=L.length:=h.2
theorem pe {L:List Tok} {s:PS} {k:Int} (h:kH L s k=true):mText L k s=(bM L s,adv s):=by rw[mText,if_pos h]
theorem mC:ByteArray.empty=⟨#[]⟩:=rfl
def rW:=ab @mC (ab @PB.eq_1 (ab @eE.eq_1 (ab @qp.eq_1 (ab @cH.eq_1 (ab @nB.eq_1 (ab @il.eq_1 (ab @zExpr.eq_1 (ab @zVal.eq_1 (ab @z0.eq_1 (ab @ai (ab @bj (ab @List.flatMap_nil.{0,0} (ab @List.flatMap_cons.{0,0} (ab @List.append_nil.{0} (ab @List.length_nil.{0} @List.length_cons.{0})))))))))))))))
def Gy (Lo:Ob):Nat:=match Go.Dv.look Lo 9000 with|some (.str [_,.v (.int _ a),_])=>a.toNat|_=>0
end Go.Proofs.YtoegnikpokgbfaaGreatDoor
