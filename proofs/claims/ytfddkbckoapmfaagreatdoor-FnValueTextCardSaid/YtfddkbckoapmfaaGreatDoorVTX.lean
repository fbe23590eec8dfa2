/-
  Plans.
  Conditions: none.
-/
import Derived.Test.YtfddkbckoapmfaaGreatDoorVTB1
set_option linter.unusedVariables false
set_option linter.unusedSimpArgs false
set_option linter.unusedSectionVars false
set_option maxRecDepth 8000
namespace Go.Proofs.YtfddkbckoapmfaaGreatDoor
open Go Go.Dv
open Go.Vc (D shrI xorI andI and255)
mutual
inductive PExpr where
 | mk (kind : Int) (op : Int) (not : Bool) (val : Val) (up : Int) (at_ : Int) (kids : List PExpr) (sub : List Plan)
inductive PSort where
 | mk (e : PExpr) (desc : Bool)
inductive Plan where
 | mk (tables : List Int) (on : List PRow) (where_ : List PExpr) (order : List PSort) (items : List PExpr) (names : List ByteArray) (distinct : Bool) (limit : Int)
inductive PRow where
 | mk (l : List PExpr)
end
mutual
def PExpr.row : PExpr → List D
 | .mk kind op not val up at_ kids sub => int kind :: int op :: bool not :: int val.kind :: int val.num :: str val.text :: int up :: int at_ :: .sl kids.length (rowsPExpr kids) :: .sl sub.length (rowsPlan sub) :: []
def PSort.row : PSort → List D
 | .mk e desc => (e.row ++ bool desc :: [])
def Plan.row : Plan → List D
 | .mk tables on where_ order items names distinct limit => .sl tables.length (tables.flatMap irow) :: .sl on.length (rowsPRow on) :: .sl where_.length (rowsPExpr where_) :: .sl order.length (rowsPSort order) :: .sl items.length (rowsPExpr items) :: .sl names.length (names.flatMap srow) :: bool distinct :: int limit :: []
def PRow.row : PRow → List D
 | .mk l => .sl l.length (rowsPExpr l) :: []
def rowsPExpr : List PExpr → List D
 | [] => []
 | x :: r => x.row ++ rowsPExpr r
def rowsPRow : List PRow → List D
 | [] => []
 | x :: r => x.row ++ rowsPRow r
def rowsPSort : List PSort → List D
 | [] => []
 | x :: r => x.row ++ rowsPSort r
def rowsPlan : List Plan → List D
 | [] => []
 | x :: r => x.row ++ rowsPlan r
end
theorem rowsPExpr_eq : ∀ l : List PExpr, rowsPExpr l = l.flatMap PExpr.row
 | [] => by rw [rowsPExpr, List.flatMap_nil]
 | x :: r => by rw [rowsPExpr, List.flatMap_cons, rowsPExpr_eq r]
theorem rowsPlan_eq : ∀ l : List Plan, rowsPlan l = l.flatMap Plan.row
 | [] => by rw [rowsPlan, List.flatMap_nil]
 | x :: r => by rw [rowsPlan, List.flatMap_cons, rowsPlan_eq r]
theorem PExpr.row_mk (kind : Int) (op : Int) (not : Bool) (val : Val) (up : Int) (at_ : Int) (kids : List PExpr) (sub : List Plan) : (PExpr.mk kind op not val up at_ kids sub).row = int kind :: int op :: bool not :: int val.kind :: int val.num :: str val.text :: int up :: int at_ :: .sl kids.length (kids.flatMap PExpr.row) :: .sl sub.length (sub.flatMap Plan.row) :: [] := by rw [PExpr.row]; rw [rowsPExpr_eq]; rw [rowsPlan_eq]
end Go.Proofs.YtfddkbckoapmfaaGreatDoor
