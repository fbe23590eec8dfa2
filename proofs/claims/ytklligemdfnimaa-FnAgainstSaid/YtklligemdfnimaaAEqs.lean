/-
  The equations of the symbolic walk.
  Conditions: none.
-/
import Derived.Test.YtklligemdfnimaaAWalkB
set_option linter.unusedVariables false
set_option linter.unusedSimpArgs false
set_option linter.unusedVariables false
namespace Go.Vc
open Go
section
variable (P : Program) (n : Nat) (K : KE) (f g : Regs) (L : Lst) (m : World)
theorem a0 : vc P n .skip K f L m = K .normal f L m := rfl
theorem a1 (l : Nat) : vc P n (.label l) K f L m = K .normal f L m := rfl
theorem a2 (id : Nat) (ops : Array Oper) : vc P n (.region id ops false) K f L m = vcl P n ops (K .normal) ops.toList f L m := rfl
theorem a3 (x y : Code) : vc P n (.seq x y) K f L m = vc P n x (fun e => match e with | .normal => vc P n y K | e => K e) f L m := rfl
theorem a4 (c : Operand) (x y : Code) : vc P n (.cond c x y) K f L m = match ev f c with | .c (.v (.bool t)) => (t = true → vc P n x K f L m) ∧ (t = false → vc P n y K f L m) | _ => False := rfl
theorem a5 (id : Nat) (c : Code) : vc P n (.block id c) K f L m = vc P n c (fun e => match e with | .exit id' => if id' = id then K .normal else K (.exit id') | e => K e) f L m := rfl
theorem a6 (c : Code) : vc P n (.loop c) K f L m = vcLoop (dsts c) (vc P n c) K f L m := rfl
theorem a7 (id : Nat) : vc P n (.exit id) K f L m = K (.exit id) f L m := rfl
theorem a8 : vc P n .ret K f L m = K .ret f L m := rfl
theorem a9 (ops : Array Oper) (Q : K0) : vcl P n ops Q [] f L m = Q f L m := rfl
theorem a10 (ops : Array Oper) (Q : K0) (dst : Option Nat) (op : Op) (ty : TypeId) (pos : String) (af : Array Edge) (r : List Oper) : vcl P n ops Q (⟨dst, op, ty, pos, af, none⟩ :: r) f L m = vcOp P n ⟨dst, op, ty, pos, af, none⟩ (vcl P n ops Q r) f L m := rfl
theorem a11 (ops : Array Oper) (Q : K0) (dst : Option Nat) (op : Op) (ty : TypeId) (pos : String) (af : Array Edge) (j : Nat) (r : List Oper) : vcl P n ops Q (⟨dst, op, ty, pos, af, some (j, true)⟩ :: r) f L m =
    match guardSlot ops j with
      | none => False
      | some g => match f g with
        | .c (.v (.bool b)) => Gd b (vcOp P n ⟨dst, op, ty, pos, af, some (j, true)⟩ (vcl P n ops Q r)) (upd f g (.c (.v (.bool true)))) (vcl P n ops Q r) (put n (upd f g (.c (.v (.bool false)))) dst (.c (.v undef))) L m
        | .c (.v (.tuple _)) => vcl P n ops Q r (put n f dst (.c (.v undef))) L m
        | _ => False := rfl
theorem a30 (ops : Array Oper) (Q : K0) (dst : Option Nat) (op : Op) (ty : TypeId) (pos : String) (af : Array Edge) (j : Nat) (r : List Oper) : vcl P n ops Q (⟨dst, op, ty, pos, af, some (j, false)⟩ :: r) f L m =
    match guardSlot ops j with
      | none => False
      | some g => match f g with
        | .c (.v (.bool b)) => Gd b (vcl P n ops Q r) (put n (upd f g (.c (.v (.bool true)))) dst (.c (.v undef))) (vcOp P n ⟨dst, op, ty, pos, af, some (j, false)⟩ (vcl P n ops Q r)) (upd f g (.c (.v (.bool false)))) L m
        | .c (.v (.tuple _)) => vcl P n ops Q r (put n f dst (.c (.v undef))) L m
        | _ => False := by
  rw [vcl]; simp only [Bool.not_false]
  cases guardSlot ops j with
  | none => rfl
  | some g => cases h : f g with
    | ag _ => simp [h]
    | c x => cases x with
      | v y => cases y <;> simp [h, Gd, And.comm]
      | _ => simp [h]
theorem a12 (d : Nat) (v : SV) (s : Nat) : upd f d v s = if s = d then v else f s := rfl
theorem a13 (ws : List Nat) (s : Nat) : mix f ws g s = if inN ws s = true then g s else mixS ws (f s) := rfl
theorem a14 (d s : Nat) : killR d f s = killS d (f s) := rfl
theorem a15 (i b : Nat) (c : Option Nat) (s : Nat) : pubR i b c f s = pubS i b c (f s) := rfl
theorem a16 (i j s : Nat) : renR i j f s = renS i j (f s) := rfl
theorem a17 (s : Nat) : regs0 [] s = .c (.v undef) := rfl
theorem a18 (v : Value) (vs : List Value) : regs0 (v :: vs) 0 = .c (.v v) := rfl
theorem a19 (v : Value) (vs : List Value) (s : Nat) : regs0 (v :: vs) (s + 1) = regs0 vs s := rfl
theorem a20 (rs : List ResultVar) (R : Value → World → Prop) : endK P rs R .normal f L m = vcRet P rs R f L m := rfl
theorem a21 (rs : List ResultVar) (R : Value → World → Prop) : endK P rs R .ret f L m = vcRet P rs R f L m := rfl
theorem a22 (id : Nat) (ops : Array Oper) : vc P n (.region id ops true) K f L m = vcDrawn P n ops (K .normal) f L m := rfl
theorem a23 (ops : Array Oper) (Q : K0) : vcPlan P n ops Q .done f L m = Q f L m := rfl
theorem a24 (ops : Array Oper) (Q : K0) : vcPlan P n ops Q .nobr f L m = True := rfl
theorem a25 (ops : Array Oper) (Q : K0) (i : Nat) (p : Plan) : vcPlan P n ops Q (.take i p) f L m = match ops.toList[i]? with
    | some o => vcGuard n ops o (vcOp P n o) (vcPlan P n ops Q p) f L m
    | none => False := by simp only [vcPlan, Array.getElem?_toList]; cases ops[i]? <;> rfl
theorem a26 (ops : Array Oper) (Q : K0) (i : Nat) (p q : Plan) : vcPlan P n ops Q (.br i p q) f L m = ((match ops.toList[i]? with
    | some o => vcGuard n ops o (vcOpS P n o) (vcPlan P n ops Q p) f L m
    | none => False) ∧ vcPlan P n ops Q q f L m) := by simp only [vcPlan, Array.getElem?_toList]; cases ops[i]? <;> rfl
theorem a27 (ops : Array Oper) (S : K0 → K0) (Q : K0) (dst : Option Nat) (op : Op) (ty : TypeId) (pos : String) (af : Array Edge) : vcGuard n ops ⟨dst, op, ty, pos, af, none⟩ S Q f L m = S Q f L m := rfl
theorem a28 (ops : Array Oper) (S : K0 → K0) (Q : K0) (dst : Option Nat) (op : Op) (ty : TypeId) (pos : String) (af : Array Edge) (j : Nat) : vcGuard n ops ⟨dst, op, ty, pos, af, some (j, true)⟩ S Q f L m =
    match guardSlot ops j with
      | none => False
      | some g => match f g with
        | .c (.v (.bool b)) => Gd b (S Q) (upd f g (.c (.v (.bool true)))) Q (put n (upd f g (.c (.v (.bool false)))) dst (.c (.v undef))) L m
        | .c (.v (.tuple _)) => Q (put n f dst (.c (.v undef))) L m
        | _ => False := rfl
theorem a31 (ops : Array Oper) (S : K0 → K0) (Q : K0) (dst : Option Nat) (op : Op) (ty : TypeId) (pos : String) (af : Array Edge) (j : Nat) : vcGuard n ops ⟨dst, op, ty, pos, af, some (j, false)⟩ S Q f L m =
    match guardSlot ops j with
      | none => False
      | some g => match f g with
        | .c (.v (.bool b)) => Gd b Q (put n (upd f g (.c (.v (.bool true)))) dst (.c (.v undef))) (S Q) (upd f g (.c (.v (.bool false)))) L m
        | .c (.v (.tuple _)) => Q (put n f dst (.c (.v undef))) L m
        | _ => False := by
  rw [vcGuard]; simp only [Bool.not_false]
  cases guardSlot ops j with
  | none => rfl
  | some g => cases h : f g with
    | ag _ => simp [h]
    | c x => cases x with
      | v y => cases y <;> simp [h, Gd, And.comm]
      | _ => simp [h]
theorem a32 (KA : K0) (fA : Regs) (KB : K0) (fB : Regs) : Gd true KA fA KB fB L m = KA fA L m := by simp [Gd]
theorem a33 (KA : K0) (fA : Regs) (KB : K0) (fB : Regs) : Gd false KA fA KB fB L m = KB fB L m := by simp [Gd]
theorem a29 (ops : Array Oper) (j : Nat) : guardSlot ops j = (ops.toList[j]?).bind (·.dst) := by rw [guardSlot, Array.getElem?_toList]
theorem a34 (ops : Array Oper) (Q : K0) (lt : List Nat) : vcPlanL P n ops Q lt .done f L m = Q f L m := by rw [vcPlanL]
theorem a35 (ops : Array Oper) (Q : K0) (lt : List Nat) : vcPlanL P n ops Q lt .nobr f L m = True := by rw [vcPlanL]
theorem a36 (ops : Array Oper) (Q : K0) (lt : List Nat) (i : Nat) (p : PlanL) : vcPlanL P n ops Q lt (.take i p) f L m = match ops.toList[i]? with
    | some o => vcGuard n ops o (vcOp P n o) (vcPlanL P n ops Q lt p) f L m
    | none => False := by rw [Array.getElem?_toList, vcPlanL]; rfl
theorem a37 (ops : Array Oper) (Q : K0) (lt : List Nat) (i : Nat) (p q : PlanL) : vcPlanL P n ops Q lt (.br i p q) f L m = (deads ops lt f ∧ (match ops.toList[i]? with
    | some o => vcGuard n ops o (vcOpS P n o) (vcPlanL P n ops Q lt p) f L m
    | none => False) ∧ vcPlanL P n ops Q lt q f L m) := by rw [Array.getElem?_toList, vcPlanL]; rfl
theorem a38 (ops : Array Oper) (Q : K0) (lt : List Nat) (i : Nat) (p q : PlanL) : vcPlanL P n ops Q lt (.brF i p q) f L m = (deads ops lt f ∧ (match ops.toList[i]? with
    | some o => cap0 o f L ∧ vcGuard n ops o (vcOpS P n o) (vcPlanL P n ops Q lt p) f L m
    | none => False) ∧ vcPlanL P n ops Q lt q f L m) := by rw [Array.getElem?_toList, vcPlanL]; rfl
theorem a39 (ops : Array Oper) (Q : K0) (lt : List Nat) (i : Nat) (p : PlanL) : vcPlanL P n ops Q lt (.late i p) f L m = match ops.toList[i]?, guardSlot ops i with
    | some o, some d => vcOp P n o (fun _ _ _ => True) f L m ∧ vcPlanL P n ops Q (i :: lt) p (upd f d (.c .dead)) L m
    | _, _ => False := by rw [Array.getElem?_toList, vcPlanL]; rfl
theorem a40 (ops : Array Oper) (Q : K0) (lt : List Nat) (i : Nat) (p : PlanL) : vcPlanL P n ops Q lt (.mk i p) f L m = (deads ops lt f ∧ (match ops.toList[i]? with
    | some o => vcOp P n o (vcPlanL P n ops Q (remN i lt) p) f L m
    | none => False)) := by rw [Array.getElem?_toList, vcPlanL]; rfl
theorem a41 (ops : Array Oper) (Q : K0) (lt : List Nat) (i : Nat) (p q : PlanL) : vcPlanL P n ops Q lt (.brX i p q) f L m = (deads ops lt f ∧ (match ops.toList[i]? with
    | some o => vcGuard n ops o (vcOp P n o) (vcPlanL P n ops Q lt p) f L m
    | none => False) ∧ vcPlanL P n ops Q lt q f L m) := by rw [Array.getElem?_toList, vcPlanL]; rfl
end
end Go.Vc

set_option linter.unusedVariables false
namespace Go.Vc
open Go
theorem q0 : ∀ (P : Program) (n : Nat) (K : KE) (f : Regs) (L : Lst) (m : World), vc P n Code.skip K f L m = K Exit.normal f L m := @a0
theorem q1 : ∀ (P : Program) (n : Nat) (K : KE) (f : Regs) (L : Lst) (m : World) (l : Nat),
  vc P n (Code.label l) K f L m = K Exit.normal f L m := @a1
theorem q2 : ∀ (P : Program) (n : Nat) (K : KE) (f : Regs) (L : Lst) (m : World) (id : Nat) (ops : Array Oper),
  vc P n (Code.region id ops false) K f L m = vcl P n ops (K Exit.normal) (Array.toList ops) f L m := @a2
theorem q3 : ∀ (P : Program) (n : Nat) (K : KE) (f : Regs) (L : Lst) (m : World) (x y : Code),
  vc P n (Code.seq x y) K f L m =
    vc P n x
      (fun e =>
        match (motive := Exit → Regs → Lst → World → Prop) e with
        | Exit.normal => vc P n y K
        | e => K e)
      f L m := @a3
theorem q4 : ∀ (P : Program) (n : Nat) (K : KE) (f : Regs) (L : Lst) (m : World) (c : Operand) (x y : Code),
  vc P n (Code.cond c x y) K f L m =
    match ev f c with
    | SV.c (CV.v (Value.bool t)) => (t = true → vc P n x K f L m) ∧ (t = false → vc P n y K f L m)
    | x => False := @a4
theorem q5 : ∀ (P : Program) (n : Nat) (K : KE) (f : Regs) (L : Lst) (m : World) (id : Nat) (c : Code),
  vc P n (Code.block id c) K f L m =
    vc P n c
      (fun e =>
        match (motive := Exit → Regs → Lst → World → Prop) e with
        | Exit.exit id' => if id' = id then K Exit.normal else K (Exit.exit id')
        | e => K e)
      f L m := @a5
theorem q6 : ∀ (P : Program) (n : Nat) (K : KE) (f : Regs) (L : Lst) (m : World) (c : Code),
  vc P n (Code.loop c) K f L m = vcLoop (dsts c) (vc P n c) K f L m := @a6
theorem q7 : ∀ (P : Program) (n : Nat) (K : KE) (f : Regs) (L : Lst) (m : World) (id : Nat),
  vc P n (Code.exit id) K f L m = K (Exit.exit id) f L m := @a7
theorem q8 : ∀ (P : Program) (n : Nat) (K : KE) (f : Regs) (L : Lst) (m : World), vc P n Code.ret K f L m = K Exit.ret f L m := @a8
theorem q9 : ∀ (P : Program) (n : Nat) (f : Regs) (L : Lst) (m : World) (ops : Array Oper) (Q : K0),
  vcl P n ops Q [] f L m = Q f L m := @a9
theorem q10 : ∀ (P : Program) (n : Nat) (f : Regs) (L : Lst) (m : World) (ops : Array Oper) (Q : K0) (dst : Option Nat)
  (op : Op) (ty : TypeId) (pos : String) (af : Array Edge) (r : List Oper),
  vcl P n ops Q ({ dst := dst, op := op, type := ty, pos := pos, after := af, guard := none } :: r) f L m =
    vcOp P n { dst := dst, op := op, type := ty, pos := pos, after := af, guard := none } (vcl P n ops Q r) f L m := @a10
theorem q11 : ∀ (P : Program) (n : Nat) (f : Regs) (L : Lst) (m : World) (ops : Array Oper) (Q : K0) (dst : Option Nat)
  (op : Op) (ty : TypeId) (pos : String) (af : Array Edge) (j : Nat) (r : List Oper),
  vcl P n ops Q ({ dst := dst, op := op, type := ty, pos := pos, after := af, guard := some (j, true) } :: r) f L m =
    match guardSlot ops j with
    | none => False
    | some g =>
      match f g with
      | SV.c (CV.v (Value.bool b)) =>
        Gd b
          (vcOp P n { dst := dst, op := op, type := ty, pos := pos, after := af, guard := some (j, true) }
            (vcl P n ops Q r))
          (upd f g (SV.c (CV.v (Value.bool true)))) (vcl P n ops Q r)
          (put n (upd f g (SV.c (CV.v (Value.bool false)))) dst (SV.c (CV.v undef))) L m
      | SV.c (CV.v (Value.tuple vs)) => vcl P n ops Q r (put n f dst (SV.c (CV.v undef))) L m
      | x => False := @a11
theorem q12 : ∀ (f : Regs) (d : Nat) (v : SV) (s : Nat), upd f d v s = if s = d then v else f s := @a12
theorem q13 : ∀ (f g : Regs) (ws : List Nat) (s : Nat), mix f ws g s = if inN ws s = true then g s else mixS ws (f s) := @a13
theorem q14 : ∀ (f : Regs) (d s : Nat), killR d f s = killS d (f s) := @a14
theorem q15 : ∀ (f : Regs) (i b : Nat) (c : Option Nat) (s : Nat), pubR i b c f s = pubS i b c (f s) := @a15
theorem q16 : ∀ (f : Regs) (i j s : Nat), renR i j f s = renS i j (f s) := @a16
theorem q17 : ∀ (s : Nat), regs0 [] s = SV.c (CV.v undef) := @a17
theorem q18 : ∀ (v : Value) (vs : List Value), regs0 (v :: vs) 0 = SV.c (CV.v v) := @a18
theorem q19 : ∀ (v : Value) (vs : List Value) (s : Nat), regs0 (v :: vs) (s + 1) = regs0 vs s := @a19
theorem q20 : ∀ (P : Program) (f : Regs) (L : Lst) (m : World) (rs : List ResultVar) (R : Value → World → Prop),
  endK P rs R Exit.normal f L m = vcRet P rs R f L m := @a20
theorem q21 : ∀ (P : Program) (f : Regs) (L : Lst) (m : World) (rs : List ResultVar) (R : Value → World → Prop),
  endK P rs R Exit.ret f L m = vcRet P rs R f L m := @a21
theorem q22 : ∀ (P : Program) (n : Nat) (K : KE) (f : Regs) (L : Lst) (m : World) (id : Nat) (ops : Array Oper),
  vc P n (Code.region id ops true) K f L m = vcDrawn P n ops (K Exit.normal) f L m := @a22
theorem q23 : ∀ (P : Program) (n : Nat) (f : Regs) (L : Lst) (m : World) (ops : Array Oper) (Q : K0),
  vcPlan P n ops Q Plan.done f L m = Q f L m := @a23
theorem q24 : ∀ (P : Program) (n : Nat) (f : Regs) (L : Lst) (m : World) (ops : Array Oper) (Q : K0),
  vcPlan P n ops Q Plan.nobr f L m = True := @a24
theorem q25 : ∀ (P : Program) (n : Nat) (f : Regs) (L : Lst) (m : World) (ops : Array Oper) (Q : K0) (i : Nat) (p : Plan),
  vcPlan P n ops Q (Plan.take i p) f L m =
    match (Array.toList ops)[i]? with
    | some o => vcGuard n ops o (vcOp P n o) (vcPlan P n ops Q p) f L m
    | none => False := @a25
theorem q26 : ∀ (P : Program) (n : Nat) (f : Regs) (L : Lst) (m : World) (ops : Array Oper) (Q : K0) (i : Nat) (p q : Plan),
  vcPlan P n ops Q (Plan.br i p q) f L m =
    ((match (Array.toList ops)[i]? with
      | some o => vcGuard n ops o (vcOpS P n o) (vcPlan P n ops Q p) f L m
      | none => False) ∧
      vcPlan P n ops Q q f L m) := @a26
theorem q27 : ∀ (n : Nat) (f : Regs) (L : Lst) (m : World) (ops : Array Oper) (S : K0 → K0) (Q : K0) (dst : Option Nat)
  (op : Op) (ty : TypeId) (pos : String) (af : Array Edge),
  vcGuard n ops { dst := dst, op := op, type := ty, pos := pos, after := af, guard := none } S Q f L m = S Q f L m := @a27
theorem q28 : ∀ (n : Nat) (f : Regs) (L : Lst) (m : World) (ops : Array Oper) (S : K0 → K0) (Q : K0) (dst : Option Nat)
  (op : Op) (ty : TypeId) (pos : String) (af : Array Edge) (j : Nat),
  vcGuard n ops { dst := dst, op := op, type := ty, pos := pos, after := af, guard := some (j, true) } S Q f L m =
    match guardSlot ops j with
    | none => False
    | some g =>
      match f g with
      | SV.c (CV.v (Value.bool b)) =>
        Gd b (S Q) (upd f g (SV.c (CV.v (Value.bool true)))) Q
          (put n (upd f g (SV.c (CV.v (Value.bool false)))) dst (SV.c (CV.v undef))) L m
      | SV.c (CV.v (Value.tuple vs)) => Q (put n f dst (SV.c (CV.v undef))) L m
      | x => False := @a28
theorem q29 : ∀ (ops : Array Oper) (j : Nat), guardSlot ops j = Option.bind (Array.toList ops)[j]? fun x => Oper.dst x := @a29
theorem q30 : ∀ (P : Program) (n : Nat) (f : Regs) (L : Lst) (m : World) (ops : Array Oper) (Q : K0) (dst : Option Nat)
  (op : Op) (ty : TypeId) (pos : String) (af : Array Edge) (j : Nat) (r : List Oper),
  vcl P n ops Q ({ dst := dst, op := op, type := ty, pos := pos, after := af, guard := some (j, false) } :: r) f L m =
    match guardSlot ops j with
    | none => False
    | some g =>
      match f g with
      | SV.c (CV.v (Value.bool b)) =>
        Gd b (vcl P n ops Q r) (put n (upd f g (SV.c (CV.v (Value.bool true)))) dst (SV.c (CV.v undef)))
          (vcOp P n { dst := dst, op := op, type := ty, pos := pos, after := af, guard := some (j, false) }
            (vcl P n ops Q r))
          (upd f g (SV.c (CV.v (Value.bool false)))) L m
      | SV.c (CV.v (Value.tuple vs)) => vcl P n ops Q r (put n f dst (SV.c (CV.v undef))) L m
      | x => False := @a30
theorem q31 : ∀ (n : Nat) (f : Regs) (L : Lst) (m : World) (ops : Array Oper) (S : K0 → K0) (Q : K0) (dst : Option Nat)
  (op : Op) (ty : TypeId) (pos : String) (af : Array Edge) (j : Nat),
  vcGuard n ops { dst := dst, op := op, type := ty, pos := pos, after := af, guard := some (j, false) } S Q f L m =
    match guardSlot ops j with
    | none => False
    | some g =>
      match f g with
      | SV.c (CV.v (Value.bool b)) =>
        Gd b Q (put n (upd f g (SV.c (CV.v (Value.bool true)))) dst (SV.c (CV.v undef))) (S Q)
          (upd f g (SV.c (CV.v (Value.bool false)))) L m
      | SV.c (CV.v (Value.tuple vs)) => Q (put n f dst (SV.c (CV.v undef))) L m
      | x => False := @a31
theorem q32 : ∀ (L : Lst) (m : World) (KA : K0) (fA : Regs) (KB : K0) (fB : Regs), Gd true KA fA KB fB L m = KA fA L m := @a32
theorem q33 : ∀ (L : Lst) (m : World) (KA : K0) (fA : Regs) (KB : K0) (fB : Regs), Gd false KA fA KB fB L m = KB fB L m := @a33
theorem q34 : ∀ (P : Program) (n : Nat) (f : Regs) (L : Lst) (m : World) (ops : Array Oper) (Q : K0) (lt : List Nat),
  vcPlanL P n ops Q lt PlanL.done f L m = Q f L m := @a34
theorem q35 : ∀ (P : Program) (n : Nat) (f : Regs) (L : Lst) (m : World) (ops : Array Oper) (Q : K0) (lt : List Nat),
  vcPlanL P n ops Q lt PlanL.nobr f L m = True := @a35
theorem q36 : ∀ (P : Program) (n : Nat) (f : Regs) (L : Lst) (m : World) (ops : Array Oper) (Q : K0) (lt : List Nat) (i : Nat)
  (p : PlanL),
  vcPlanL P n ops Q lt (PlanL.take i p) f L m =
    match (Array.toList ops)[i]? with
    | some o => vcGuard n ops o (vcOp P n o) (vcPlanL P n ops Q lt p) f L m
    | none => False := @a36
theorem q37 : ∀ (P : Program) (n : Nat) (f : Regs) (L : Lst) (m : World) (ops : Array Oper) (Q : K0) (lt : List Nat) (i : Nat)
  (p q : PlanL),
  vcPlanL P n ops Q lt (PlanL.br i p q) f L m =
    (deads ops lt f ∧
      (match (Array.toList ops)[i]? with
        | some o => vcGuard n ops o (vcOpS P n o) (vcPlanL P n ops Q lt p) f L m
        | none => False) ∧
        vcPlanL P n ops Q lt q f L m) := @a37
theorem q38 : ∀ (P : Program) (n : Nat) (f : Regs) (L : Lst) (m : World) (ops : Array Oper) (Q : K0) (lt : List Nat) (i : Nat)
  (p q : PlanL),
  vcPlanL P n ops Q lt (PlanL.brF i p q) f L m =
    (deads ops lt f ∧
      (match (Array.toList ops)[i]? with
        | some o => cap0 o f L ∧ vcGuard n ops o (vcOpS P n o) (vcPlanL P n ops Q lt p) f L m
        | none => False) ∧
        vcPlanL P n ops Q lt q f L m) := @a38
theorem q39 : ∀ (P : Program) (n : Nat) (f : Regs) (L : Lst) (m : World) (ops : Array Oper) (Q : K0) (lt : List Nat) (i : Nat)
  (p : PlanL),
  vcPlanL P n ops Q lt (PlanL.late i p) f L m =
    match (Array.toList ops)[i]?, guardSlot ops i with
    | some o, some d =>
      vcOp P n o (fun x x_1 x_2 => True) f L m ∧ vcPlanL P n ops Q (i :: lt) p (upd f d (SV.c CV.dead)) L m
    | x, x_1 => False := @a39
theorem q40 : ∀ (P : Program) (n : Nat) (f : Regs) (L : Lst) (m : World) (ops : Array Oper) (Q : K0) (lt : List Nat) (i : Nat)
  (p : PlanL),
  vcPlanL P n ops Q lt (PlanL.mk i p) f L m =
    (deads ops lt f ∧
      match (Array.toList ops)[i]? with
      | some o => vcOp P n o (vcPlanL P n ops Q (remN i lt) p) f L m
      | none => False) := @a40
theorem q41 : ∀ (P : Program) (n : Nat) (f : Regs) (L : Lst) (m : World) (ops : Array Oper) (Q : K0) (lt : List Nat) (i : Nat)
  (p q : PlanL),
  vcPlanL P n ops Q lt (PlanL.brX i p q) f L m =
    (deads ops lt f ∧
      (match (Array.toList ops)[i]? with
        | some o => vcGuard n ops o (vcOp P n o) (vcPlanL P n ops Q lt p) f L m
        | none => False) ∧
        vcPlanL P n ops Q lt q f L m) := @a41
theorem q42 : ∀ {P : Program} {n : Nat} {d : Option Nat} {K : K0} {f : Regs} {L : Lst} {m : World} {k : IntKind}
  {t : TypeId} {x y : Operand} {a b : Int},
  vcPure P n d
      (do
        eqGuard BinOp.add t x y (Value.int k a) (Value.int k b)
        binOp BinOp.add t (Value.int k a) (Value.int k b))
      K f L m =
    K (put n f d (SV.c (CV.v (Value.int k (IntKind.wrap k (a + b)))))) L m := @pure_add
theorem q43 : ∀ {P : Program} {n : Nat} {d : Option Nat} {K : K0} {f : Regs} {L : Lst} {m : World} {k : IntKind}
  {t : TypeId} {x y : Operand} {a b : Int},
  vcPure P n d
      (do
        eqGuard BinOp.sub t x y (Value.int k a) (Value.int k b)
        binOp BinOp.sub t (Value.int k a) (Value.int k b))
      K f L m =
    K (put n f d (SV.c (CV.v (Value.int k (IntKind.wrap k (a - b)))))) L m := @pure_sub
theorem q44 : ∀ {P : Program} {n : Nat} {d : Option Nat} {K : K0} {f : Regs} {L : Lst} {m : World} {k : IntKind}
  {t : TypeId} {x y : Operand} {a b : Int},
  vcPure P n d
      (do
        eqGuard BinOp.mul t x y (Value.int k a) (Value.int k b)
        binOp BinOp.mul t (Value.int k a) (Value.int k b))
      K f L m =
    K (put n f d (SV.c (CV.v (Value.int k (IntKind.wrap k (a * b)))))) L m := @pure_mul
theorem q45 : ∀ {P : Program} {n : Nat} {d : Option Nat} {K : K0} {f : Regs} {L : Lst} {m : World} {k : IntKind}
  {t : TypeId} {x y : Operand} {a b : Int},
  vcPure P n d
      (do
        eqGuard BinOp.lss t x y (Value.int k a) (Value.int k b)
        binOp BinOp.lss t (Value.int k a) (Value.int k b))
      K f L m =
    K (put n f d (SV.c (CV.v (Value.bool (decide (a < b)))))) L m := @pure_lss
theorem q46 : ∀ {P : Program} {n : Nat} {d : Option Nat} {K : K0} {f : Regs} {L : Lst} {m : World} {k : IntKind}
  {t : TypeId} {x y : Operand} {a b : Int},
  vcPure P n d
      (do
        eqGuard BinOp.leq t x y (Value.int k a) (Value.int k b)
        binOp BinOp.leq t (Value.int k a) (Value.int k b))
      K f L m =
    K (put n f d (SV.c (CV.v (Value.bool (decide (a ≤ b)))))) L m := @pure_leq
theorem q47 : ∀ {P : Program} {n : Nat} {d : Option Nat} {K : K0} {f : Regs} {L : Lst} {m : World} {k : IntKind}
  {t : TypeId} {x y : Operand} {a b : Int},
  vcPure P n d
      (do
        eqGuard BinOp.gtr t x y (Value.int k a) (Value.int k b)
        binOp BinOp.gtr t (Value.int k a) (Value.int k b))
      K f L m =
    K (put n f d (SV.c (CV.v (Value.bool (decide (b < a)))))) L m := @pure_gtr
theorem q48 : ∀ {P : Program} {n : Nat} {d : Option Nat} {K : K0} {f : Regs} {L : Lst} {m : World} {k : IntKind}
  {t : TypeId} {x y : Operand} {a b : Int},
  vcPure P n d
      (do
        eqGuard BinOp.geq t x y (Value.int k a) (Value.int k b)
        binOp BinOp.geq t (Value.int k a) (Value.int k b))
      K f L m =
    K (put n f d (SV.c (CV.v (Value.bool (decide (b ≤ a)))))) L m := @pure_geq
theorem q49 : ∀ {P : Program} {n : Nat} {d : Option Nat} {K : K0} {f : Regs} {L : Lst} {m : World} {k : IntKind}
  {t : TypeId} {x y : Operand} {a b : Int},
  vcPure P n d
      (do
        eqGuard BinOp.eql t x y (Value.int k a) (Value.int k b)
        binOp BinOp.eql t (Value.int k a) (Value.int k b))
      K f L m =
    K (put n f d (SV.c (CV.v (Value.bool (decide (a = b)))))) L m := @pure_eql
theorem q50 : ∀ {P : Program} {n : Nat} {d : Option Nat} {K : K0} {f : Regs} {L : Lst} {m : World} {k : IntKind}
  {t : TypeId} {x y : Operand} {a b : Int},
  vcPure P n d
      (do
        eqGuard BinOp.neq t x y (Value.int k a) (Value.int k b)
        binOp BinOp.neq t (Value.int k a) (Value.int k b))
      K f L m =
    K (put n f d (SV.c (CV.v (Value.bool !decide (a = b))))) L m := @pure_neq
theorem q51 : ∀ {P : Program} {n : Nat} {d : Option Nat} {K : K0} {f : Regs} {L : Lst} {m : World} {t : TypeId}
  {x y : Operand} {a b : ByteArray},
  vcPure P n d
      (do
        eqGuard BinOp.eql t x y (Value.string a) (Value.string b)
        binOp BinOp.eql t (Value.string a) (Value.string b))
      K f L m =
    K (put n f d (SV.c (CV.v (Value.bool (decide (a = b)))))) L m := @pure_seql
theorem q52 : ∀ {P : Program} {n : Nat} {d : Option Nat} {K : K0} {f : Regs} {L : Lst} {m : World} {t : TypeId}
  {x y : Operand} {a b : ByteArray},
  vcPure P n d
      (do
        eqGuard BinOp.neq t x y (Value.string a) (Value.string b)
        binOp BinOp.neq t (Value.string a) (Value.string b))
      K f L m =
    K (put n f d (SV.c (CV.v (Value.bool !decide (a = b))))) L m := @pure_sneq
theorem q53 : ∀ {P : Program} {n : Nat} {d : Option Nat} {K : K0} {f : Regs} {L : Lst} {m : World} {a : Bool},
  vcPure P n d (Op.unary UnOp.not (Value.bool a)) K f L m = K (put n f d (SV.c (CV.v (Value.bool !a)))) L m := @pure_not
theorem q54 : ∀ {P : Program} {n : Nat} {d : Option Nat} {K : K0} {f : Regs} {L : Lst} {m : World} {k : IntKind}
  {a : Int},
  vcPure P n d (Op.unary UnOp.neg (Value.int k a)) K f L m =
    K (put n f d (SV.c (CV.v (Value.int k (IntKind.wrap k (-a)))))) L m := @pure_neg
theorem q55 : ∀ (P : Program) (n : Nat) (o : Oper) (K : K0) (f : Regs) (L : Lst) (m : World),
  vcOp P n o K f L m =
    match Oper.op o with
    | Op.move x => K (put n f (Oper.dst o) (ev f x)) L m
    | Op.assign x => K (put n f (Oper.dst o) (ev f x)) L m
    | Op.pick c a b =>
      match ev f c with
      | SV.c (CV.v (Value.bool t)) => Gd t K (put n f (Oper.dst o) (ev f a)) K (put n f (Oper.dst o) (ev f b)) L m
      | x => False
    | Op.alloc t =>
      match zeroC P t with
      | some z => create n (Oper.dst o) (Box.str t (List.map CV.v z)) (fun d => CV.bp d 0) K f L m
      | none => False
    | Op.box t x =>
      match cellsOf? (ev f x) with
      | some cs => create n (Oper.dst o) (Box.str t cs) (fun d => CV.bp d 0) K f L m
      | none => False
    | Op.build t parts =>
      match zeroC P t, placesS P t with
      | some z, some pl =>
        match fillC pl (List.map CV.v z) (List.map (fun p => (Prod.fst p, ev f (Prod.snd p))) (Array.toList parts)) with
        | some cs => K (put n f (Oper.dst o) (mkAg cs)) L m
        | none => False
      | x, x_1 => False
    | Op.buildSlice T len parts =>
      match elemS P T with
      | some (e, sz, snd) =>
        match zerosOf P e sz len with
        | some zs =>
          match
            fillC (List.map (fun i => (i * sz, sz)) (List.range len)) (List.map CV.v zs)
              (List.map (fun p => (Prod.fst p, ev f (Prod.snd p))) (Array.toList parts)) with
          | some cs =>
            match valsOf? cs with
            | some vs =>
              0 < sz ∧ len * sz ≤ 16777216 ∧ create n (Oper.dst o) (Box.arr e vs len) (fun d => CV.bs d len) K f L m
            | none => False
          | none => False
        | none => False
      | none => False
    | Op.load t x => vcLoad P n (Oper.dst o) t (ev f x) K f L m
    | Op.store t x y => vcStore P n (Oper.dst o) t (ev f x) (ev f y) K f L m
    | Op.fieldAddr T x k =>
      match ev f x with
      | SV.c (CV.bp i off) =>
        match fieldOff P T k with
        | some q => K (put n f (Oper.dst o) (SV.c (CV.bp i (off + q)))) L m
        | none => False
      | SV.c (CV.v a) => vcPure P n (Oper.dst o) (Instr.fieldAt T a k) K f L m
      | x => False
    | Op.indexAddr T x i =>
      match ev f i, elemS P T with
      | SV.c (CV.v (Value.int k k_1)), some (fst, sz, snd) =>
        match ev f x with
        | SV.c (CV.bs j ln) => 0 ≤ k_1 ∧ k_1 < ↑ln ∧ K (put n f (Oper.dst o) (SV.c (CV.bp j (Int.toNat k_1 * sz)))) L m
        | SV.c (CV.v (Value.slice a ln cap)) =>
          0 ≤ k_1 ∧
            k_1 < ↑ln ∧
              ∃ ad,
                a = some ad ∧
                  K (put n f (Oper.dst o) (SV.c (CV.v (Value.pointer (some (Addr.add ad (Int.toNat k_1 * sz))))))) L m
        | x => False
      | x, x_1 => False
    | Op.makeSlice T l c =>
      match ev f l, ev f c, elemS P T with
      | SV.c (CV.v (Value.int IntKind.i64 a)), SV.c (CV.v (Value.int IntKind.i64 b)), some (e, sz, bytes) =>
        0 ≤ a ∧
          a = b ∧
            0 < sz ∧
              b * ↑bytes ≤ 140737488355328 ∧
                b ≤ 9223372036854775807 ∧
                  match zerosOf P e sz (Int.toNat a) with
                  | some zs =>
                    create n (Oper.dst o) (Box.arr e zs (Int.toNat b)) (fun d => CV.bs d (Int.toNat a)) K f L m
                  | none => False
      | x, x_1, x_2 => False
    | Op.call c =>
      match Call.callee c with
      | Callee.value g => vcCall P n (Oper.dst o) (ev f g) (List.map (ev f) (Array.toList (Call.args c))) K f L m
      | Callee.builtin Builtin.len =>
        match List.map (ev f) (Array.toList (Call.args c)), Array.toList (Call.argTypes c) with
        | [x], [T] =>
          match x with
          | SV.c (CV.bs i ln) => lenK P T = 1 ∧ K (put n f (Oper.dst o) (SV.c (CV.v (Value.int IntKind.i64 ↑ln)))) L m
          | SV.c (CV.v (Value.slice a ln cap)) =>
            lenK P T = 1 ∧ K (put n f (Oper.dst o) (SV.c (CV.v (Value.int IntKind.i64 ↑ln)))) L m
          | SV.c (CV.v (Value.string s)) =>
            lenK P T = 2 ∧ K (put n f (Oper.dst o) (SV.c (CV.v (Value.int IntKind.i64 ↑(ByteArray.size s))))) L m
          | x => False
        | x, x_1 => False
      | Callee.builtin Builtin.append =>
        match List.map (ev f) (Array.toList (Call.args c)), Array.toList (Call.argTypes c) with
        | [s, t], [T, U] => T = U ∧ zeroOk P T = true ∧ vcAppend P n (Oper.dst o) T s t K f L m
        | x, x_1 => False
      | x => False
    | Op.binOp op t x y yType =>
      match ev f x, ev f y with
      | SV.c (CV.v a), SV.c (CV.v b) =>
        vcPure P n (Oper.dst o)
          (do
            eqGuard op t x y a b
            binOp op t a b)
          K f L m
      | x, x_1 => False
    | Op.unOp op xType x =>
      match ev f x with
      | SV.c (CV.v a) => vcPure P n (Oper.dst o) (Op.unary op a) K f L m
      | x => False
    | Op.nilCheck x =>
      match ev f x with
      | SV.c (CV.v (Value.pointer (some ad))) => K (put n f (Oper.dst o) (SV.c (CV.v (Value.pointer (some ad))))) L m
      | SV.c (CV.bp i off) => K (put n f (Oper.dst o) (SV.c (CV.bp i off))) L m
      | SV.c (CV.v (Value.func (Fn.func g) first captured)) =>
        K (put n f (Oper.dst o) (SV.c (CV.v (Value.func (Fn.func g) first captured)))) L m
      | x => False
    | Op.convert s t x =>
      match ev f x with
      | SV.c (CV.v (Value.slice (some ad) ln cap)) =>
        convBS P s t = true ∧
          ∃ bs,
            List.length bs = ln ∧
              (∀ (j : Nat) (b : UInt8),
                  bs[j]? = some b → World.cell? m (Addr.add ad j) = some (Value.int IntKind.u8 ↑(UInt8.toNat b))) ∧
                K (put n f (Oper.dst o) (SV.c (CV.v (Value.string { data := List.toArray bs })))) L m
      | SV.c (CV.bs i ln) =>
        convBS P s t = true ∧
          match look L i with
          | some (Box.arr ty vs cap) =>
            ∃ bs,
              List.length bs = ln ∧
                (∀ (j : Nat) (b : UInt8), bs[j]? = some b → vs[j]? = some (Value.int IntKind.u8 ↑(UInt8.toNat b))) ∧
                  K (put n f (Oper.dst o) (SV.c (CV.v (Value.string { data := List.toArray bs })))) L m
          | x => False
      | SV.c (CV.v a) => vcPure P n (Oper.dst o) (convert s t a) K f L m
      | x => False
    | Op.extract x i =>
      match ev f x with
      | SV.c (CV.v a) => vcPure P n (Oper.dst o) (Instr.extract a i) K f L m
      | x => False
    | Op.index T x i =>
      match ev f x, ev f i with
      | SV.c (CV.v a), SV.c (CV.v b) => vcPure P n (Oper.dst o) (Instr.index T a b) K f L m
      | x, x_1 => False
    | x => False := @vcOp.eq_1
theorem q56 : ∀ (P : Program) (n : Nat) (d : Option Nat) (t : TypeId) (K : K0) (f : Regs) (L : Lst) (m : World)
  (i off : Nat),
  vcLoad P n d t (SV.c (CV.bp i off)) K f L m =
    match look L i with
    | some (Box.str ty cs) =>
      match tyS P t with
      | TS.one =>
        match cs[off]? with
        | some c => K (put n f d (SV.c c)) L m
        | none => False
      | TS.agg k =>
        if off + k ≤ List.length cs then K (put n f d (mkAg (List.take k (List.drop off cs)))) L m else False
      | TS.bad => False
    | some (Box.arr ty vs cap) =>
      match tyS P t with
      | TS.one => ∃ v, vs[off]? = some v ∧ K (put n f d (SV.c (CV.v v))) L m
      | TS.agg k =>
        off + k ≤ List.length vs ∧
          K (put n f d (SV.c (CV.v (Value.agg (List.toArray (List.take k (List.drop off vs))))))) L m
      | TS.bad => False
    | none => False := @vcLoad.eq_1
theorem q57 : ∀ (P : Program) (n : Nat) (d : Option Nat) (t : TypeId) (K : K0) (f : Regs) (L : Lst) (m : World)
  (ad : Addr), vcLoad P n d t (SV.c (CV.v (Value.pointer (some ad)))) K f L m = LoadM P t ad n d K f L m := @vcLoad.eq_2
theorem q58 : ∀ (P : Program) (n : Nat) (d : Option Nat) (t : TypeId) (x : SV) (K : K0) (f : Regs) (L : Lst)
  (m : World),
  (∀ (i off : Nat), x = SV.c (CV.bp i off) → False) →
    (∀ (ad : Addr), x = SV.c (CV.v (Value.pointer (some ad))) → False) → vcLoad P n d t x K f L m = False := @vcLoad.eq_3
theorem q59 : ∀ (P : Program) (n : Nat) (d : Option Nat) (t : TypeId) (x y : SV) (K : K0) (f : Regs) (L : Lst)
  (m : World),
  vcStore P n d t x y K f L m =
    match cellsOf? y with
    | some ys =>
      match x with
      | SV.c (CV.bp i off) =>
        match look L i with
        | some (Box.str ty cs) =>
          if
              List.all ys goodC = true ∧
                List.length ys = sizeTS (tyS P t) ∧ tyS P t ≠ TS.bad ∧ off + List.length ys ≤ List.length cs then
            K (put n f d (SV.c (CV.v undef))) (setL L i (Box.str ty (splice cs off ys))) m
          else False
        | some (Box.arr ty vs cap) =>
          match valsOf? ys with
          | some yv =>
            List.length yv = sizeTS (tyS P t) ∧
              tyS P t ≠ TS.bad ∧
                off + List.length yv ≤ List.length vs ∧
                  (∀ (v : Value), v ∈ yv → oneCell v = true) ∧
                    K (put n f d (SV.c (CV.v undef))) (setL L i (Box.arr ty (splice vs off yv) cap)) m
          | none => False
        | none => False
      | SV.c (CV.v (Value.pointer (some ad))) =>
        match valsOf? ys with
        | some yv =>
          List.length yv = sizeTS (tyS P t) ∧
            tyS P t ≠ TS.bad ∧
              Addr.spot ad = none ∧
                (∀ (v : Value), v ∈ yv → oneCell v = true) ∧
                  (∀ (j : Nat),
                      j < List.length yv →
                        Option.isSome (World.cell? m (Addr.add ad j)) = true ∧
                          World.frozen? m (Addr.add ad j) = false) ∧
                    K (put n f d (SV.c (CV.v undef))) L (setCells m ad yv)
        | none => False
      | x => False
    | none => False := @vcStore.eq_1
theorem q60 : ∀ (P : Program) (n : Nat) (d : Option Nat) (args : List SV) (K : K0) (f : Regs) (L : Lst) (m : World)
  (g : FuncId) (first captured : Array Value),
  vcCall P n d (SV.c (CV.v (Value.func (Fn.func g) first captured))) args K f L m =
    vcOut 12 args (fun vs f L m => CallK P g (first ++ List.toArray vs ++ captured) n d K f L m) f L m := @vcCall.eq_1
theorem q61 : ∀ (P : Program) (n : Nat) (d : Option Nat) (fn : SV) (args : List SV) (K : K0) (f : Regs) (L : Lst)
  (m : World),
  (∀ (g : FuncId) (first captured : Array Value), fn = SV.c (CV.v (Value.func (Fn.func g) first captured)) → False) →
    vcCall P n d fn args K f L m = False := @vcCall.eq_2
theorem q62 : ∀ (P : Program) (n : Nat) (d : Option Nat) (args : List SV) (K : K0) (f : Regs) (L : Lst) (m : World)
  (g : FuncId) (first captured : Array Value),
  vcCallS P n d (SV.c (CV.v (Value.func (Fn.func g) first captured))) args K f L m =
    vcOut 12 args (fun vs f L m => CallKS P g (first ++ List.toArray vs ++ captured) n d K f L m) f L m := @vcCallS.eq_1
theorem q63 : ∀ (P : Program) (n : Nat) (d : Option Nat) (fn : SV) (args : List SV) (K : K0) (f : Regs) (L : Lst)
  (m : World),
  (∀ (g : FuncId) (first captured : Array Value), fn = SV.c (CV.v (Value.func (Fn.func g) first captured)) → False) →
    vcCallS P n d fn args K f L m = False := @vcCallS.eq_2
theorem q64 : ∀ (P : Program) (n : Nat) (o : Oper) (K : K0) (f : Regs) (L : Lst) (m : World),
  vcOpS P n o K f L m =
    match Oper.op o with
    | Op.call c =>
      match Call.callee c with
      | Callee.value g => vcCallS P n (Oper.dst o) (ev f g) (List.map (ev f) (Array.toList (Call.args c))) K f L m
      | x => vcOp P n o K f L m
    | x => vcOp P n o K f L m := @vcOpS.eq_1
theorem q65 : ∀ (P : Program) (n : Nat) (d : Option Nat) (T : TypeId) (s t : SV) (K : K0) (f : Regs) (L : Lst)
  (m : World),
  vcAppend P n d T s t K f L m =
    match elemS P T with
    | none => False
    | some (e, sz, bytes) =>
      newsOf sz t L m fun q news =>
        (∀ (v : Value), v ∈ news → oneCell v = true) ∧
          0 < sz ∧
            match s with
            | SV.c (CV.bs i ln) =>
              match look L i with
              | some (Box.arr ty vs cap) =>
                ty = e ∧
                  ln * sz ≤ List.length vs ∧
                    ln + q ≤ maxLen ∧
                      (ln + q) * bytes ≤ 140737488355328 ∧
                        ∀ (cap' : Nat),
                          ln + q ≤ cap' →
                            cap' ≤ maxLen →
                              create n d (Box.arr ty (List.take (ln * sz) vs ++ news) cap') (fun d => CV.bs d (ln + q))
                                K f (rem L i) m
              | x => False
            | SV.c (CV.v (Value.slice none 0 0)) =>
              q ≤ maxLen ∧
                q * bytes ≤ 140737488355328 ∧
                  (q = 0 → K (put n f d (SV.c (CV.v (Value.slice none 0 0)))) L m) ∧
                    (0 < q →
                      ∀ (cap' : Nat),
                        q ≤ cap' → cap' ≤ maxLen → create n d (Box.arr e news cap') (fun d => CV.bs d q) K f L m)
            | x => False := @vcAppend.eq_1
theorem q66 : ∀ (sz : Nat) (L : Lst) (m : World) (k : Nat → List Value → Prop) (j ln : Nat),
  newsOf sz (SV.c (CV.bs j ln)) L m k =
    match look L j with
    | some (Box.arr ty vs cap) => ln * sz ≤ List.length vs ∧ k ln (List.take (ln * sz) vs)
    | x => False := @newsOf.eq_1
theorem q67 : ∀ (sz : Nat) (L : Lst) (m : World) (k : Nat → List Value → Prop),
  newsOf sz (SV.c (CV.v (Value.slice none 0 0))) L m k = k 0 [] := @newsOf.eq_2
theorem q68 : ∀ (sz : Nat) (L : Lst) (m : World) (k : Nat → List Value → Prop) (ad : Addr) (ln cap : Nat),
  newsOf sz (SV.c (CV.v (Value.slice (some ad) ln cap))) L m k =
    ∃ news,
      List.length news = ln * sz ∧
        (∀ (i : Nat) (v : Value), news[i]? = some v → World.cell? m (Addr.add ad i) = some v) ∧ k ln news := @newsOf.eq_3
theorem q69 : ∀ (sz : Nat) (t : SV) (L : Lst) (m : World) (k : Nat → List Value → Prop),
  (∀ (j ln : Nat), t = SV.c (CV.bs j ln) → False) →
    (t = SV.c (CV.v (Value.slice none 0 0)) → False) →
      (∀ (ad : Addr) (ln cap : Nat), t = SV.c (CV.v (Value.slice (some ad) ln cap)) → False) → newsOf sz t L m k = False := @newsOf.eq_4
theorem q70 : ∀ (n : Nat) (bx : Box) (mk : Nat → CV) (K : K0) (f : Regs) (L : Lst) (m : World) (c : Nat),
  create n (some c) bx mk K f L m =
    if c < n then K (upd (killR c f) c (SV.c (mk c))) ((c, killB c bx) :: rem (killL c L) c) m else False := @create.eq_1
theorem q71 : ∀ (n : Nat) (bx : Box) (mk : Nat → CV) (K : K0) (f : Regs) (L : Lst) (m : World),
  create n none bx mk K f L m = False := @create.eq_2
theorem q72 : ∀ (n : Nat) (f : Regs) (v : SV) (d_2 : Nat), put n f (some d_2) v = if d_2 < n then upd f d_2 v else f := @put.eq_1
theorem q73 : ∀ (n : Nat) (f : Regs) (v : SV), put n f none v = f := @put.eq_2
theorem q74 : ∀ (f : Regs) (t : Tmp), ev f (Operand.tmp t) = f t := @ev.eq_1
theorem q75 : ∀ (f : Regs) (v : Value), ev f (Operand.const v) = SV.c (CV.v v) := @ev.eq_2
theorem q76 : ∀ (f : Regs) (g : Nat), ev f (Operand.global g) = SV.c (CV.v (Value.pointer (some { block := g, off := 0 }))) := @ev.eq_3
theorem q77 : ∀ (f : Regs) (g : FuncId), ev f (Operand.func g) = SV.c (CV.v (Value.func (Fn.func g) #[] #[])) := @ev.eq_4
theorem q78 : ∀ (d j o : Nat), killC d (CV.bp j o) = if j = d then CV.dead else CV.bp j o := @killC.eq_1
theorem q79 : ∀ (d j n : Nat), killC d (CV.bs j n) = if j = d then CV.dead else CV.bs j n := @killC.eq_2
theorem q80 : ∀ (d : Nat) (x : CV),
  (∀ (j o : Nat), x = CV.bp j o → False) → (∀ (j n : Nat), x = CV.bs j n → False) → killC d x = x := @killC.eq_3
theorem q81 : ∀ (d : Nat) (x_1 : CV), killS d (SV.c x_1) = SV.c (killC d x_1) := @killS.eq_1
theorem q82 : ∀ (d : Nat) (cs : List CV), killS d (SV.ag cs) = SV.ag (List.map (killC d) cs) := @killS.eq_2
theorem q83 : ∀ (d : Nat) (t : TypeId) (cs : List CV), killB d (Box.str t cs) = Box.str t (List.map (killC d) cs) := @killB.eq_1
theorem q84 : ∀ (d : Nat) (t : TypeId) (vs : List Value) (cap : Nat), killB d (Box.arr t vs cap) = Box.arr t vs cap := @killB.eq_2
theorem q85 : ∀ (d : Nat), killL d [] = [] := @killL.eq_1
theorem q86 : ∀ (d j : Nat) (b : Box) (r : List (Nat × Box)), killL d ((j, b) :: r) = (j, killB d b) :: killL d r := @killL.eq_2
theorem q87 : ∀ (i b : Nat) (cap : Option Nat) (i_1 off : Nat),
  pubC i b cap (CV.bp i_1 off) =
    if i_1 = i then CV.v (Value.pointer (some { block := b, off := off })) else CV.bp i_1 off := @pubC.eq_1
theorem q88 : ∀ (i b i_1 len c : Nat),
  pubC i b (some c) (CV.bs i_1 len) =
    if i_1 = i then CV.v (Value.slice (some { block := b, off := 0 }) len c) else CV.bs i_1 len := @pubC.eq_2
theorem q89 : ∀ (i b i_1 len : Nat), pubC i b none (CV.bs i_1 len) = if i_1 = i then CV.dead else CV.bs i_1 len := @pubC.eq_3
theorem q90 : ∀ (i b : Nat) (cap : Option Nat) (x : CV),
  (∀ (i off : Nat), x = CV.bp i off → False) → (∀ (i len : Nat), x = CV.bs i len → False) → pubC i b cap x = x := @pubC.eq_4
theorem q91 : ∀ (i b : Nat) (cap : Option Nat) (x_1 : CV), pubS i b cap (SV.c x_1) = SV.c (pubC i b cap x_1) := @pubS.eq_1
theorem q92 : ∀ (i b : Nat) (cap : Option Nat) (cs : List CV),
  pubS i b cap (SV.ag cs) = SV.ag (List.map (pubC i b cap) cs) := @pubS.eq_2
theorem q93 : ∀ (i b : Nat) (cap : Option Nat) (t : TypeId) (cs : List CV),
  pubB i b cap (Box.str t cs) = Box.str t (List.map (pubC i b cap) cs) := @pubB.eq_1
theorem q94 : ∀ (i b : Nat) (cap : Option Nat) (t : TypeId) (vs : List Value) (c : Nat),
  pubB i b cap (Box.arr t vs c) = Box.arr t vs c := @pubB.eq_2
theorem q95 : ∀ (i b : Nat) (cap : Option Nat), pubL i b cap [] = [] := @pubL.eq_1
theorem q96 : ∀ (i b : Nat) (cap : Option Nat) (j : Nat) (x_1 : Box) (r : List (Nat × Box)),
  pubL i b cap ((j, x_1) :: r) = (j, pubB i b cap x_1) :: pubL i b cap r := @pubL.eq_2
theorem q97 : ∀ (i off : Nat), refsC (CV.bp i off) = [i] := @refsC.eq_1
theorem q98 : ∀ (i len : Nat), refsC (CV.bs i len) = [i] := @refsC.eq_2
theorem q99 : ∀ (x : CV),
  (∀ (i off : Nat), x = CV.bp i off → False) → (∀ (i len : Nat), x = CV.bs i len → False) → refsC x = [] := @refsC.eq_3
theorem q100 : ∀ (x_1 : CV), refsS (SV.c x_1) = refsC x_1 := @refsS.eq_1
theorem q101 : ∀ (cs : List CV), refsS (SV.ag cs) = List.flatMap refsC cs := @refsS.eq_2
theorem q102 : valsOf? [] = some [] := @valsOf?.eq_1
theorem q103 : ∀ (x_1 : Value) (r : List CV),
  valsOf? (CV.v x_1 :: r) =
    match valsOf? r with
    | some vs => some (x_1 :: vs)
    | none => none := @valsOf?.eq_2
theorem q104 : ∀ (head : CV) (tail : List CV), (∀ (x : Value), head = CV.v x → False) → valsOf? (head :: tail) = none := @valsOf?.eq_3
theorem q105 : ∀ (x : Nat), look [] x = none := @look.eq_1
theorem q106 : ∀ (x j : Nat) (b : Box) (r : List (Nat × Box)), look ((j, b) :: r) x = if j = x then some b else look r x := @look.eq_2
theorem q107 : ∀ (x : Nat), rem [] x = [] := @rem.eq_1
theorem q108 : ∀ (x j : Nat) (b : Box) (r : List (Nat × Box)),
  rem ((j, b) :: r) x = if j = x then rem r x else (j, b) :: rem r x := @rem.eq_2
theorem q109 : ∀ (L : Lst) (i : Nat) (b : Box), setL L i b = (i, b) :: rem L i := @setL.eq_1
theorem q110 : ∀ (a : Array Value), cellsOf? (SV.c (CV.v (Value.agg a))) = some (List.map CV.v (Array.toList a)) := @cellsOf?.eq_1
theorem q111 : ∀ (vs : Array Value), cellsOf? (SV.c (CV.v (Value.tuple vs))) = none := @cellsOf?.eq_2
theorem q112 : cellsOf? (SV.c CV.dead) = none := @cellsOf?.eq_3
theorem q113 : ∀ (x_1 : CV),
  (∀ (a : Array Value), x_1 = CV.v (Value.agg a) → False) →
    (∀ (vs : Array Value), x_1 = CV.v (Value.tuple vs) → False) →
      (x_1 = CV.dead → False) → cellsOf? (SV.c x_1) = some [x_1] := @cellsOf?.eq_4
theorem q114 : ∀ (cs : List CV), cellsOf? (SV.ag cs) = some cs := @cellsOf?.eq_5
theorem q115 : ∀ (cs : List CV),
  mkAg cs =
    match valsOf? cs with
    | some vs => SV.c (CV.v (Value.agg (List.toArray vs)))
    | none => SV.ag cs := @mkAg.eq_1
theorem q116 : ∀ (x_1 : Value), toV? (SV.c (CV.v x_1)) = some x_1 := @toV?.eq_1
theorem q117 : ∀ (cs : List CV),
  toV? (SV.ag cs) =
    match valsOf? cs with
    | some vs => some (Value.agg (List.toArray vs))
    | none => none := @toV?.eq_2
theorem q118 : ∀ (x : SV),
  (∀ (x_1 : Value), x = SV.c (CV.v x_1) → False) → (∀ (cs : List CV), x = SV.ag cs → False) → toV? x = none := @toV?.eq_3
theorem q119 : toVs [] = some [] := @toVs.eq_1
theorem q120 : ∀ (x_1 : SV) (r : List SV),
  toVs (x_1 :: r) =
    match toV? x_1 with
    | some v =>
      match toVs r with
      | some vs => some (v :: vs)
      | none => none
    | none => none := @toVs.eq_2
theorem q121 : ∀ {α : Type} (cs : List α) (off : Nat) (ys : List α),
  splice cs off ys = List.take off cs ++ (ys ++ List.drop (off + List.length ys) cs) := @splice.eq_1
theorem q122 : ∀ (places : List (Nat × Nat)) (cs : List CV), fillC places cs [] = some cs := @fillC.eq_1
theorem q123 : ∀ (places : List (Nat × Nat)) (cs : List CV) (i : Nat) (s : SV) (r : List (Nat × SV)),
  fillC places cs ((i, s) :: r) =
    match places[i]?, cellsOf? s with
    | some (off, size), some ys =>
      if List.length ys = size ∧ off + size ≤ List.length cs then fillC places (splice cs off ys) r else none
    | x, x_1 => none := @fillC.eq_2
theorem q124 : ∀ (i : Nat) (k : Nat → Option Nat → K0) (f : Regs) (L : Lst) (m : World),
  vcPub i k f L m =
    match look L i with
    | some bx =>
      match valsOf? (Box.cells bx) with
      | some vs =>
        ∀ (b : Nat) (m' : World),
          Pub m m' b (Box.ty bx) vs → k b (Box.cap bx) (pubR i b (Box.cap bx) f) (rem (pubL i b (Box.cap bx) L) i) m'
      | none => False
    | none => False := @vcPub.eq_1
theorem q125 : ∀ (x : List SV) (x_1 : List Value → K0), vcOut 0 x x_1 = fun x x_2 x_3 => False := @vcOut.eq_1
theorem q126 : ∀ (x : List SV) (x_1 : List Value → K0) (n : Nat),
  vcOut (Nat.succ n) x x_1 = fun f L m =>
    match toVs x with
    | some vs => x_1 vs f L m
    | none =>
      match List.flatMap refsS x with
      | [] => False
      | i :: tail => vcPub i (fun b c => vcOut n (List.map (pubS i b c) x) x_1) f L m := @vcOut.eq_2
theorem q127 : ∀ (cells : Array Value), oneCell (Value.agg cells) = false := @oneCell.eq_1
theorem q128 : ∀ (vs : Array Value), oneCell (Value.tuple vs) = false := @oneCell.eq_2
theorem q129 : ∀ (x : Value),
  (∀ (cells : Array Value), x = Value.agg cells → False) →
    (∀ (vs : Array Value), x = Value.tuple vs → False) → oneCell x = true := @oneCell.eq_3
theorem q130 : ∀ (y : Value), goodC (CV.v y) = oneCell y := @goodC.eq_1
theorem q131 : goodC CV.dead = false := @goodC.eq_2
theorem q132 : ∀ (x : CV), (∀ (y : Value), x = CV.v y → False) → (x = CV.dead → False) → goodC x = true := @goodC.eq_3
theorem q133 : sizeTS TS.one = 1 := @sizeTS.eq_1
theorem q134 : ∀ (c : Nat), sizeTS (TS.agg c) = c := @sizeTS.eq_2
theorem q135 : sizeTS TS.bad = 0 := @sizeTS.eq_3
theorem q136 : ∀ (id : Nat) (ops : Array Oper) (draw : Bool), dsts (Code.region id ops draw) = dstsOps (Array.toList ops) := @dsts.eq_1
theorem q137 : ∀ (a b : Code), dsts (Code.seq a b) = dsts a ++ dsts b := @dsts.eq_2
theorem q138 : ∀ (c : Operand) (a b : Code), dsts (Code.cond c a b) = dsts a ++ dsts b := @dsts.eq_3
theorem q139 : ∀ (id : Nat) (c : Code), dsts (Code.block id c) = dsts c := @dsts.eq_4
theorem q140 : ∀ (c : Code), dsts (Code.loop c) = dsts c := @dsts.eq_5
theorem q141 : ∀ (c : Code), dsts (Code.scope c) = dsts c := @dsts.eq_6
theorem q142 : ∀ (x : Code),
  (∀ (id : Nat) (ops : Array Oper) (draw : Bool), x = Code.region id ops draw → False) →
    (∀ (a b : Code), x = Code.seq a b → False) →
      (∀ (c : Operand) (a b : Code), x = Code.cond c a b → False) →
        (∀ (id : Nat) (c : Code), x = Code.block id c → False) →
          (∀ (c : Code), x = Code.loop c → False) → (∀ (c : Code), x = Code.scope c → False) → dsts x = [] := @dsts.eq_7
theorem q143 : dstsOps [] = [] := @dstsOps.eq_1
theorem q144 : ∀ (o : Oper) (r : List Oper),
  dstsOps (o :: r) =
    match Oper.dst o with
    | some d => d :: dstsOps r
    | none => dstsOps r := @dstsOps.eq_2
theorem q145 : ∀ (P : Program) (L : Lst) (f : Regs) (t : Tmp), resS P L f (ResultVar.tmp t) = some (f t) := @resS.eq_1
theorem q146 : ∀ (P : Program) (L : Lst) (f : Regs) (p : Tmp) (ty : TypeId),
  resS P L f (ResultVar.cell p ty) =
    match f p with
    | SV.c (CV.bp i 0) =>
      match look L i with
      | some (Box.str ty_1 cs) =>
        match tyS P ty with
        | TS.agg k => if k = List.length cs then some (mkAg cs) else none
        | TS.one =>
          match cs with
          | [c] => some (SV.c c)
          | x => none
        | TS.bad => none
      | x => none
    | x => none := @resS.eq_2
theorem q147 : ∀ (P : Program) (L : Lst) (f : Regs), resAll P L f [] = some [] := @resAll.eq_1
theorem q148 : ∀ (P : Program) (L : Lst) (f : Regs) (r : ResultVar) (rs : List ResultVar),
  resAll P L f (r :: rs) =
    match resS P L f r with
    | some s =>
      match resAll P L f rs with
      | some ss => some (s :: ss)
      | none => none
    | none => none := @resAll.eq_2
theorem q149 : ∀ (v : Value), wrapRes [v] = v := @wrapRes.eq_1
theorem q150 : ∀ (x : List Value), (∀ (v : Value), x = [v] → False) → wrapRes x = Value.tuple (List.toArray x) := @wrapRes.eq_2
theorem q151 : ∀ (P : Program) (rs : List ResultVar) (R : Value → World → Prop) (f : Regs) (L : Lst) (m : World),
  vcRet P rs R f L m =
    match resAll P L f rs with
    | some ss => vcOut 12 ss (fun vs x x_1 m' => R (wrapRes vs) m') f L m
    | none => False := @vcRet.eq_1
theorem q152 : ∀ (P : Program) (e sz k : Nat),
  zerosOf P e sz k =
    match zeroC P e with
    | some z => if List.length z = sz then some (List.flatten (List.replicate k z)) else none
    | none => none := @zerosOf.eq_1
theorem q153 : ∀ (t : TypeId) (cs : List CV), Box.cells (Box.str t cs) = cs := @Box.cells.eq_1
theorem q154 : ∀ (t : TypeId) (vs : List Value) (cap : Nat), Box.cells (Box.arr t vs cap) = List.map CV.v vs := @Box.cells.eq_2
theorem q155 : ∀ (t : TypeId) (cs : List CV), Box.ty (Box.str t cs) = t := @Box.ty.eq_1
theorem q156 : ∀ (t : TypeId) (vs : List Value) (cap : Nat), Box.ty (Box.arr t vs cap) = t := @Box.ty.eq_2
theorem q157 : ∀ (t : TypeId) (cs : List CV), Box.cap (Box.str t cs) = none := @Box.cap.eq_1
theorem q158 : ∀ (t : TypeId) (vs : List Value) (c : Nat), Box.cap (Box.arr t vs c) = some c := @Box.cap.eq_2
theorem q159 : ∀ (P : Program) (t : TypeId) (ad : Addr) (n : Nat) (d : Option Nat) (K : K0) (f : Regs) (L : Lst)
  (m : World),
  LoadM P t ad n d K f L m =
    match tyS P t with
    | TS.one => LoadK1 m ad n d K f L
    | TS.agg c => LoadKA m ad c n d K f L
    | TS.bad => False := @LoadM.eq_1
theorem q160 : ∀ (x : Nat), inN [] x = false := @inN.eq_1
theorem q161 : ∀ (x w : Nat) (ws : List Nat), inN (w :: ws) x = if w = x then true else inN ws x := @inN.eq_2
theorem q162 : ∀ (ws : List Nat) (i off : Nat), mixC ws (CV.bp i off) = if inN ws i = true then CV.dead else CV.bp i off := @mixC.eq_1
theorem q163 : ∀ (ws : List Nat) (i len : Nat), mixC ws (CV.bs i len) = if inN ws i = true then CV.dead else CV.bs i len := @mixC.eq_2
theorem q164 : ∀ (ws : List Nat) (x : CV),
  (∀ (i off : Nat), x = CV.bp i off → False) → (∀ (i len : Nat), x = CV.bs i len → False) → mixC ws x = x := @mixC.eq_3
theorem q165 : ∀ (ws : List Nat) (x_1 : CV), mixS ws (SV.c x_1) = SV.c (mixC ws x_1) := @mixS.eq_1
theorem q166 : ∀ (ws : List Nat) (cs : List CV), mixS ws (SV.ag cs) = SV.ag (List.map (mixC ws) cs) := @mixS.eq_2
theorem q167 : ∀ (k : IntKind) (k_1 : Int), ixS (SV.c (CV.v (Value.int k k_1))) = k_1 := @ixS.eq_1
theorem q168 : ∀ (x : SV), (∀ (k : IntKind) (k_1 : Int), x = SV.c (CV.v (Value.int k k_1)) → False) → ixS x = 0 := @ixS.eq_2
theorem q169 : ∀ (i j i_1 off : Nat),
  renC i j (CV.bp i_1 off) = if i_1 = i then CV.bp j off else if i_1 = j then CV.dead else CV.bp i_1 off := @renC.eq_1
theorem q170 : ∀ (i j i_1 len : Nat),
  renC i j (CV.bs i_1 len) = if i_1 = i then CV.bs j len else if i_1 = j then CV.dead else CV.bs i_1 len := @renC.eq_2
theorem q171 : ∀ (i j : Nat) (x : CV),
  (∀ (i off : Nat), x = CV.bp i off → False) → (∀ (i len : Nat), x = CV.bs i len → False) → renC i j x = x := @renC.eq_3
theorem q172 : ∀ (i j : Nat) (x_1 : CV), renS i j (SV.c x_1) = SV.c (renC i j x_1) := @renS.eq_1
theorem q173 : ∀ (i j : Nat) (cs : List CV), renS i j (SV.ag cs) = SV.ag (List.map (renC i j) cs) := @renS.eq_2
theorem q174 : ∀ (i j : Nat) (t : TypeId) (cs : List CV), renB i j (Box.str t cs) = Box.str t (List.map (renC i j) cs) := @renB.eq_1
theorem q175 : ∀ (i j : Nat) (t : TypeId) (vs : List Value) (c : Nat), renB i j (Box.arr t vs c) = Box.arr t vs c := @renB.eq_2
theorem q176 : ∀ (i j : Nat), renL i j [] = [] := @renL.eq_1
theorem q177 : ∀ (i j j_1 : Nat) (x_1 : Box) (r : List (Nat × Box)),
  renL i j ((j_1, x_1) :: r) =
    if j_1 = i then (j, renB i j x_1) :: renL i j r
    else if j_1 = j then renL i j r else (j_1, renB i j x_1) :: renL i j r := @renL.eq_2
theorem q178 : ∀ (ws : List Nat) (f : Regs) (L : Lst) (k : Regs → Lst → Prop), rens ws [] f L k = k f L := @rens.eq_1
theorem q179 : ∀ (ws : List Nat) (f : Regs) (L : Lst) (k : Regs → Lst → Prop) (i j : Nat) (r : List (Nat × Nat)),
  rens ws ((i, j) :: r) f L k = (i ≠ j ∧ inN ws j = true ∧ rens ws r (renR i j f) (renL i j L) k) := @rens.eq_2
theorem q180 : ∀ (i : Nat), remN i [] = [] := @remN.eq_1
theorem q181 : ∀ (i i_1 : Nat) (tail : List Nat),
  remN i (i_1 :: tail) = if i_1 = i then remN i tail else i_1 :: remN i tail := @remN.eq_2
theorem q182 : ∀ (ops : Array Oper) (x : Regs), deads ops [] x = True := @deads.eq_1
theorem q183 : ∀ (ops : Array Oper) (x : Regs) (i : Nat) (r : List Nat),
  deads ops (i :: r) x =
    ((match guardSlot ops i with
      | some d => x d = SV.c CV.dead
      | none => True) ∧
      deads ops r x) := @deads.eq_2
theorem q184 : ∀ (o : Oper) (f : Regs) (L : Lst),
  cap0 o f L =
    match Oper.op o with
    | Op.call c =>
      match Array.toList (Call.args c) with
      | x :: tail =>
        match ev f x with
        | SV.c (CV.bs i len) =>
          match look L i with
          | some (Box.arr ty vs cap) => cap = 0
          | x => False
        | x => False
      | [] => False
    | x => False := @cap0.eq_1
theorem qs0 : (∀ (P : Program) (n : Nat) (K : KE) (f : Regs) (L : Lst) (m : World), vc P n Code.skip K f L m = K Exit.normal f L m) ∧
  (∀ (P : Program) (n : Nat) (K : KE) (f : Regs) (L : Lst) (m : World) (l : Nat),
  vc P n (Code.label l) K f L m = K Exit.normal f L m) ∧
  (∀ (P : Program) (n : Nat) (K : KE) (f : Regs) (L : Lst) (m : World) (id : Nat) (ops : Array Oper),
  vc P n (Code.region id ops false) K f L m = vcl P n ops (K Exit.normal) (Array.toList ops) f L m) ∧
  (∀ (P : Program) (n : Nat) (K : KE) (f : Regs) (L : Lst) (m : World) (x y : Code),
  vc P n (Code.seq x y) K f L m =
    vc P n x
      (fun e =>
        match (motive := Exit → Regs → Lst → World → Prop) e with
        | Exit.normal => vc P n y K
        | e => K e)
      f L m) ∧
  (∀ (P : Program) (n : Nat) (K : KE) (f : Regs) (L : Lst) (m : World) (c : Operand) (x y : Code),
  vc P n (Code.cond c x y) K f L m =
    match ev f c with
    | SV.c (CV.v (Value.bool t)) => (t = true → vc P n x K f L m) ∧ (t = false → vc P n y K f L m)
    | x => False) ∧
  (∀ (P : Program) (n : Nat) (K : KE) (f : Regs) (L : Lst) (m : World) (id : Nat) (c : Code),
  vc P n (Code.block id c) K f L m =
    vc P n c
      (fun e =>
        match (motive := Exit → Regs → Lst → World → Prop) e with
        | Exit.exit id' => if id' = id then K Exit.normal else K (Exit.exit id')
        | e => K e)
      f L m) ∧
  (∀ (P : Program) (n : Nat) (K : KE) (f : Regs) (L : Lst) (m : World) (c : Code),
  vc P n (Code.loop c) K f L m = vcLoop (dsts c) (vc P n c) K f L m) ∧
  (∀ (P : Program) (n : Nat) (K : KE) (f : Regs) (L : Lst) (m : World) (id : Nat),
  vc P n (Code.exit id) K f L m = K (Exit.exit id) f L m) ∧
  (∀ (P : Program) (n : Nat) (K : KE) (f : Regs) (L : Lst) (m : World), vc P n Code.ret K f L m = K Exit.ret f L m) ∧
  (∀ (P : Program) (n : Nat) (f : Regs) (L : Lst) (m : World) (ops : Array Oper) (Q : K0),
  vcl P n ops Q [] f L m = Q f L m) ∧
  (∀ (P : Program) (n : Nat) (f : Regs) (L : Lst) (m : World) (ops : Array Oper) (Q : K0) (dst : Option Nat)
  (op : Op) (ty : TypeId) (pos : String) (af : Array Edge) (r : List Oper),
  vcl P n ops Q ({ dst := dst, op := op, type := ty, pos := pos, after := af, guard := none } :: r) f L m =
    vcOp P n { dst := dst, op := op, type := ty, pos := pos, after := af, guard := none } (vcl P n ops Q r) f L m) ∧
  (∀ (P : Program) (n : Nat) (f : Regs) (L : Lst) (m : World) (ops : Array Oper) (Q : K0) (dst : Option Nat)
  (op : Op) (ty : TypeId) (pos : String) (af : Array Edge) (j : Nat) (r : List Oper),
  vcl P n ops Q ({ dst := dst, op := op, type := ty, pos := pos, after := af, guard := some (j, true) } :: r) f L m =
    match guardSlot ops j with
    | none => False
    | some g =>
      match f g with
      | SV.c (CV.v (Value.bool b)) =>
        Gd b
          (vcOp P n { dst := dst, op := op, type := ty, pos := pos, after := af, guard := some (j, true) }
            (vcl P n ops Q r))
          (upd f g (SV.c (CV.v (Value.bool true)))) (vcl P n ops Q r)
          (put n (upd f g (SV.c (CV.v (Value.bool false)))) dst (SV.c (CV.v undef))) L m
      | SV.c (CV.v (Value.tuple vs)) => vcl P n ops Q r (put n f dst (SV.c (CV.v undef))) L m
      | x => False) ∧
  (∀ (f : Regs) (d : Nat) (v : SV) (s : Nat), upd f d v s = if s = d then v else f s) ∧
  (∀ (f g : Regs) (ws : List Nat) (s : Nat), mix f ws g s = if inN ws s = true then g s else mixS ws (f s)) ∧
  (∀ (f : Regs) (d s : Nat), killR d f s = killS d (f s)) ∧
  (∀ (f : Regs) (i b : Nat) (c : Option Nat) (s : Nat), pubR i b c f s = pubS i b c (f s)) ∧
  (∀ (f : Regs) (i j s : Nat), renR i j f s = renS i j (f s)) ∧
  (∀ (s : Nat), regs0 [] s = SV.c (CV.v undef)) ∧
  (∀ (v : Value) (vs : List Value), regs0 (v :: vs) 0 = SV.c (CV.v v)) ∧
  (∀ (v : Value) (vs : List Value) (s : Nat), regs0 (v :: vs) (s + 1) = regs0 vs s) :=
  ⟨q0, q1, q2, q3, q4, q5, q6, q7, q8, q9, q10, q11, q12, q13, q14, q15, q16, q17, q18, q19⟩
theorem qs1 : (∀ (P : Program) (f : Regs) (L : Lst) (m : World) (rs : List ResultVar) (R : Value → World → Prop),
  endK P rs R Exit.normal f L m = vcRet P rs R f L m) ∧
  (∀ (P : Program) (f : Regs) (L : Lst) (m : World) (rs : List ResultVar) (R : Value → World → Prop),
  endK P rs R Exit.ret f L m = vcRet P rs R f L m) ∧
  (∀ (P : Program) (n : Nat) (K : KE) (f : Regs) (L : Lst) (m : World) (id : Nat) (ops : Array Oper),
  vc P n (Code.region id ops true) K f L m = vcDrawn P n ops (K Exit.normal) f L m) ∧
  (∀ (P : Program) (n : Nat) (f : Regs) (L : Lst) (m : World) (ops : Array Oper) (Q : K0),
  vcPlan P n ops Q Plan.done f L m = Q f L m) ∧
  (∀ (P : Program) (n : Nat) (f : Regs) (L : Lst) (m : World) (ops : Array Oper) (Q : K0),
  vcPlan P n ops Q Plan.nobr f L m = True) ∧
  (∀ (P : Program) (n : Nat) (f : Regs) (L : Lst) (m : World) (ops : Array Oper) (Q : K0) (i : Nat) (p : Plan),
  vcPlan P n ops Q (Plan.take i p) f L m =
    match (Array.toList ops)[i]? with
    | some o => vcGuard n ops o (vcOp P n o) (vcPlan P n ops Q p) f L m
    | none => False) ∧
  (∀ (P : Program) (n : Nat) (f : Regs) (L : Lst) (m : World) (ops : Array Oper) (Q : K0) (i : Nat) (p q : Plan),
  vcPlan P n ops Q (Plan.br i p q) f L m =
    ((match (Array.toList ops)[i]? with
      | some o => vcGuard n ops o (vcOpS P n o) (vcPlan P n ops Q p) f L m
      | none => False) ∧
      vcPlan P n ops Q q f L m)) ∧
  (∀ (n : Nat) (f : Regs) (L : Lst) (m : World) (ops : Array Oper) (S : K0 → K0) (Q : K0) (dst : Option Nat)
  (op : Op) (ty : TypeId) (pos : String) (af : Array Edge),
  vcGuard n ops { dst := dst, op := op, type := ty, pos := pos, after := af, guard := none } S Q f L m = S Q f L m) ∧
  (∀ (n : Nat) (f : Regs) (L : Lst) (m : World) (ops : Array Oper) (S : K0 → K0) (Q : K0) (dst : Option Nat)
  (op : Op) (ty : TypeId) (pos : String) (af : Array Edge) (j : Nat),
  vcGuard n ops { dst := dst, op := op, type := ty, pos := pos, after := af, guard := some (j, true) } S Q f L m =
    match guardSlot ops j with
    | none => False
    | some g =>
      match f g with
      | SV.c (CV.v (Value.bool b)) =>
        Gd b (S Q) (upd f g (SV.c (CV.v (Value.bool true)))) Q
          (put n (upd f g (SV.c (CV.v (Value.bool false)))) dst (SV.c (CV.v undef))) L m
      | SV.c (CV.v (Value.tuple vs)) => Q (put n f dst (SV.c (CV.v undef))) L m
      | x => False) ∧
  (∀ (ops : Array Oper) (j : Nat), guardSlot ops j = Option.bind (Array.toList ops)[j]? fun x => Oper.dst x) ∧
  (∀ (P : Program) (n : Nat) (f : Regs) (L : Lst) (m : World) (ops : Array Oper) (Q : K0) (dst : Option Nat)
  (op : Op) (ty : TypeId) (pos : String) (af : Array Edge) (j : Nat) (r : List Oper),
  vcl P n ops Q ({ dst := dst, op := op, type := ty, pos := pos, after := af, guard := some (j, false) } :: r) f L m =
    match guardSlot ops j with
    | none => False
    | some g =>
      match f g with
      | SV.c (CV.v (Value.bool b)) =>
        Gd b (vcl P n ops Q r) (put n (upd f g (SV.c (CV.v (Value.bool true)))) dst (SV.c (CV.v undef)))
          (vcOp P n { dst := dst, op := op, type := ty, pos := pos, after := af, guard := some (j, false) }
            (vcl P n ops Q r))
          (upd f g (SV.c (CV.v (Value.bool false)))) L m
      | SV.c (CV.v (Value.tuple vs)) => vcl P n ops Q r (put n f dst (SV.c (CV.v undef))) L m
      | x => False) ∧
  (∀ (n : Nat) (f : Regs) (L : Lst) (m : World) (ops : Array Oper) (S : K0 → K0) (Q : K0) (dst : Option Nat)
  (op : Op) (ty : TypeId) (pos : String) (af : Array Edge) (j : Nat),
  vcGuard n ops { dst := dst, op := op, type := ty, pos := pos, after := af, guard := some (j, false) } S Q f L m =
    match guardSlot ops j with
    | none => False
    | some g =>
      match f g with
      | SV.c (CV.v (Value.bool b)) =>
        Gd b Q (put n (upd f g (SV.c (CV.v (Value.bool true)))) dst (SV.c (CV.v undef))) (S Q)
          (upd f g (SV.c (CV.v (Value.bool false)))) L m
      | SV.c (CV.v (Value.tuple vs)) => Q (put n f dst (SV.c (CV.v undef))) L m
      | x => False) ∧
  (∀ (L : Lst) (m : World) (KA : K0) (fA : Regs) (KB : K0) (fB : Regs), Gd true KA fA KB fB L m = KA fA L m) ∧
  (∀ (L : Lst) (m : World) (KA : K0) (fA : Regs) (KB : K0) (fB : Regs), Gd false KA fA KB fB L m = KB fB L m) ∧
  (∀ (P : Program) (n : Nat) (f : Regs) (L : Lst) (m : World) (ops : Array Oper) (Q : K0) (lt : List Nat),
  vcPlanL P n ops Q lt PlanL.done f L m = Q f L m) ∧
  (∀ (P : Program) (n : Nat) (f : Regs) (L : Lst) (m : World) (ops : Array Oper) (Q : K0) (lt : List Nat),
  vcPlanL P n ops Q lt PlanL.nobr f L m = True) ∧
  (∀ (P : Program) (n : Nat) (f : Regs) (L : Lst) (m : World) (ops : Array Oper) (Q : K0) (lt : List Nat) (i : Nat)
  (p : PlanL),
  vcPlanL P n ops Q lt (PlanL.take i p) f L m =
    match (Array.toList ops)[i]? with
    | some o => vcGuard n ops o (vcOp P n o) (vcPlanL P n ops Q lt p) f L m
    | none => False) ∧
  (∀ (P : Program) (n : Nat) (f : Regs) (L : Lst) (m : World) (ops : Array Oper) (Q : K0) (lt : List Nat) (i : Nat)
  (p q : PlanL),
  vcPlanL P n ops Q lt (PlanL.br i p q) f L m =
    (deads ops lt f ∧
      (match (Array.toList ops)[i]? with
        | some o => vcGuard n ops o (vcOpS P n o) (vcPlanL P n ops Q lt p) f L m
        | none => False) ∧
        vcPlanL P n ops Q lt q f L m)) ∧
  (∀ (P : Program) (n : Nat) (f : Regs) (L : Lst) (m : World) (ops : Array Oper) (Q : K0) (lt : List Nat) (i : Nat)
  (p q : PlanL),
  vcPlanL P n ops Q lt (PlanL.brF i p q) f L m =
    (deads ops lt f ∧
      (match (Array.toList ops)[i]? with
        | some o => cap0 o f L ∧ vcGuard n ops o (vcOpS P n o) (vcPlanL P n ops Q lt p) f L m
        | none => False) ∧
        vcPlanL P n ops Q lt q f L m)) ∧
  (∀ (P : Program) (n : Nat) (f : Regs) (L : Lst) (m : World) (ops : Array Oper) (Q : K0) (lt : List Nat) (i : Nat)
  (p : PlanL),
  vcPlanL P n ops Q lt (PlanL.late i p) f L m =
    match (Array.toList ops)[i]?, guardSlot ops i with
    | some o, some d =>
      vcOp P n o (fun x x_1 x_2 => True) f L m ∧ vcPlanL P n ops Q (i :: lt) p (upd f d (SV.c CV.dead)) L m
    | x, x_1 => False) :=
  ⟨q20, q21, q22, q23, q24, q25, q26, q27, q28, q29, q30, q31, q32, q33, q34, q35, q36, q37, q38, q39⟩
theorem qs2 : (∀ (P : Program) (n : Nat) (f : Regs) (L : Lst) (m : World) (ops : Array Oper) (Q : K0) (lt : List Nat) (i : Nat)
  (p : PlanL),
  vcPlanL P n ops Q lt (PlanL.mk i p) f L m =
    (deads ops lt f ∧
      match (Array.toList ops)[i]? with
      | some o => vcOp P n o (vcPlanL P n ops Q (remN i lt) p) f L m
      | none => False)) ∧
  (∀ (P : Program) (n : Nat) (f : Regs) (L : Lst) (m : World) (ops : Array Oper) (Q : K0) (lt : List Nat) (i : Nat)
  (p q : PlanL),
  vcPlanL P n ops Q lt (PlanL.brX i p q) f L m =
    (deads ops lt f ∧
      (match (Array.toList ops)[i]? with
        | some o => vcGuard n ops o (vcOp P n o) (vcPlanL P n ops Q lt p) f L m
        | none => False) ∧
        vcPlanL P n ops Q lt q f L m)) ∧
  (∀ {P : Program} {n : Nat} {d : Option Nat} {K : K0} {f : Regs} {L : Lst} {m : World} {k : IntKind}
  {t : TypeId} {x y : Operand} {a b : Int},
  vcPure P n d
      (do
        eqGuard BinOp.add t x y (Value.int k a) (Value.int k b)
        binOp BinOp.add t (Value.int k a) (Value.int k b))
      K f L m =
    K (put n f d (SV.c (CV.v (Value.int k (IntKind.wrap k (a + b)))))) L m) ∧
  (∀ {P : Program} {n : Nat} {d : Option Nat} {K : K0} {f : Regs} {L : Lst} {m : World} {k : IntKind}
  {t : TypeId} {x y : Operand} {a b : Int},
  vcPure P n d
      (do
        eqGuard BinOp.sub t x y (Value.int k a) (Value.int k b)
        binOp BinOp.sub t (Value.int k a) (Value.int k b))
      K f L m =
    K (put n f d (SV.c (CV.v (Value.int k (IntKind.wrap k (a - b)))))) L m) ∧
  (∀ {P : Program} {n : Nat} {d : Option Nat} {K : K0} {f : Regs} {L : Lst} {m : World} {k : IntKind}
  {t : TypeId} {x y : Operand} {a b : Int},
  vcPure P n d
      (do
        eqGuard BinOp.mul t x y (Value.int k a) (Value.int k b)
        binOp BinOp.mul t (Value.int k a) (Value.int k b))
      K f L m =
    K (put n f d (SV.c (CV.v (Value.int k (IntKind.wrap k (a * b)))))) L m) ∧
  (∀ {P : Program} {n : Nat} {d : Option Nat} {K : K0} {f : Regs} {L : Lst} {m : World} {k : IntKind}
  {t : TypeId} {x y : Operand} {a b : Int},
  vcPure P n d
      (do
        eqGuard BinOp.lss t x y (Value.int k a) (Value.int k b)
        binOp BinOp.lss t (Value.int k a) (Value.int k b))
      K f L m =
    K (put n f d (SV.c (CV.v (Value.bool (decide (a < b)))))) L m) ∧
  (∀ {P : Program} {n : Nat} {d : Option Nat} {K : K0} {f : Regs} {L : Lst} {m : World} {k : IntKind}
  {t : TypeId} {x y : Operand} {a b : Int},
  vcPure P n d
      (do
        eqGuard BinOp.leq t x y (Value.int k a) (Value.int k b)
        binOp BinOp.leq t (Value.int k a) (Value.int k b))
      K f L m =
    K (put n f d (SV.c (CV.v (Value.bool (decide (a ≤ b)))))) L m) ∧
  (∀ {P : Program} {n : Nat} {d : Option Nat} {K : K0} {f : Regs} {L : Lst} {m : World} {k : IntKind}
  {t : TypeId} {x y : Operand} {a b : Int},
  vcPure P n d
      (do
        eqGuard BinOp.gtr t x y (Value.int k a) (Value.int k b)
        binOp BinOp.gtr t (Value.int k a) (Value.int k b))
      K f L m =
    K (put n f d (SV.c (CV.v (Value.bool (decide (b < a)))))) L m) ∧
  (∀ {P : Program} {n : Nat} {d : Option Nat} {K : K0} {f : Regs} {L : Lst} {m : World} {k : IntKind}
  {t : TypeId} {x y : Operand} {a b : Int},
  vcPure P n d
      (do
        eqGuard BinOp.geq t x y (Value.int k a) (Value.int k b)
        binOp BinOp.geq t (Value.int k a) (Value.int k b))
      K f L m =
    K (put n f d (SV.c (CV.v (Value.bool (decide (b ≤ a)))))) L m) ∧
  (∀ {P : Program} {n : Nat} {d : Option Nat} {K : K0} {f : Regs} {L : Lst} {m : World} {k : IntKind}
  {t : TypeId} {x y : Operand} {a b : Int},
  vcPure P n d
      (do
        eqGuard BinOp.eql t x y (Value.int k a) (Value.int k b)
        binOp BinOp.eql t (Value.int k a) (Value.int k b))
      K f L m =
    K (put n f d (SV.c (CV.v (Value.bool (decide (a = b)))))) L m) ∧
  (∀ {P : Program} {n : Nat} {d : Option Nat} {K : K0} {f : Regs} {L : Lst} {m : World} {k : IntKind}
  {t : TypeId} {x y : Operand} {a b : Int},
  vcPure P n d
      (do
        eqGuard BinOp.neq t x y (Value.int k a) (Value.int k b)
        binOp BinOp.neq t (Value.int k a) (Value.int k b))
      K f L m =
    K (put n f d (SV.c (CV.v (Value.bool !decide (a = b))))) L m) ∧
  (∀ {P : Program} {n : Nat} {d : Option Nat} {K : K0} {f : Regs} {L : Lst} {m : World} {t : TypeId}
  {x y : Operand} {a b : ByteArray},
  vcPure P n d
      (do
        eqGuard BinOp.eql t x y (Value.string a) (Value.string b)
        binOp BinOp.eql t (Value.string a) (Value.string b))
      K f L m =
    K (put n f d (SV.c (CV.v (Value.bool (decide (a = b)))))) L m) ∧
  (∀ {P : Program} {n : Nat} {d : Option Nat} {K : K0} {f : Regs} {L : Lst} {m : World} {t : TypeId}
  {x y : Operand} {a b : ByteArray},
  vcPure P n d
      (do
        eqGuard BinOp.neq t x y (Value.string a) (Value.string b)
        binOp BinOp.neq t (Value.string a) (Value.string b))
      K f L m =
    K (put n f d (SV.c (CV.v (Value.bool !decide (a = b))))) L m) ∧
  (∀ {P : Program} {n : Nat} {d : Option Nat} {K : K0} {f : Regs} {L : Lst} {m : World} {a : Bool},
  vcPure P n d (Op.unary UnOp.not (Value.bool a)) K f L m = K (put n f d (SV.c (CV.v (Value.bool !a)))) L m) ∧
  (∀ {P : Program} {n : Nat} {d : Option Nat} {K : K0} {f : Regs} {L : Lst} {m : World} {k : IntKind}
  {a : Int},
  vcPure P n d (Op.unary UnOp.neg (Value.int k a)) K f L m =
    K (put n f d (SV.c (CV.v (Value.int k (IntKind.wrap k (-a)))))) L m) ∧
  (∀ (P : Program) (n : Nat) (o : Oper) (K : K0) (f : Regs) (L : Lst) (m : World),
  vcOp P n o K f L m =
    match Oper.op o with
    | Op.move x => K (put n f (Oper.dst o) (ev f x)) L m
    | Op.assign x => K (put n f (Oper.dst o) (ev f x)) L m
    | Op.pick c a b =>
      match ev f c with
      | SV.c (CV.v (Value.bool t)) => Gd t K (put n f (Oper.dst o) (ev f a)) K (put n f (Oper.dst o) (ev f b)) L m
      | x => False
    | Op.alloc t =>
      match zeroC P t with
      | some z => create n (Oper.dst o) (Box.str t (List.map CV.v z)) (fun d => CV.bp d 0) K f L m
      | none => False
    | Op.box t x =>
      match cellsOf? (ev f x) with
      | some cs => create n (Oper.dst o) (Box.str t cs) (fun d => CV.bp d 0) K f L m
      | none => False
    | Op.build t parts =>
      match zeroC P t, placesS P t with
      | some z, some pl =>
        match fillC pl (List.map CV.v z) (List.map (fun p => (Prod.fst p, ev f (Prod.snd p))) (Array.toList parts)) with
        | some cs => K (put n f (Oper.dst o) (mkAg cs)) L m
        | none => False
      | x, x_1 => False
    | Op.buildSlice T len parts =>
      match elemS P T with
      | some (e, sz, snd) =>
        match zerosOf P e sz len with
        | some zs =>
          match
            fillC (List.map (fun i => (i * sz, sz)) (List.range len)) (List.map CV.v zs)
              (List.map (fun p => (Prod.fst p, ev f (Prod.snd p))) (Array.toList parts)) with
          | some cs =>
            match valsOf? cs with
            | some vs =>
              0 < sz ∧ len * sz ≤ 16777216 ∧ create n (Oper.dst o) (Box.arr e vs len) (fun d => CV.bs d len) K f L m
            | none => False
          | none => False
        | none => False
      | none => False
    | Op.load t x => vcLoad P n (Oper.dst o) t (ev f x) K f L m
    | Op.store t x y => vcStore P n (Oper.dst o) t (ev f x) (ev f y) K f L m
    | Op.fieldAddr T x k =>
      match ev f x with
      | SV.c (CV.bp i off) =>
        match fieldOff P T k with
        | some q => K (put n f (Oper.dst o) (SV.c (CV.bp i (off + q)))) L m
        | none => False
      | SV.c (CV.v a) => vcPure P n (Oper.dst o) (Instr.fieldAt T a k) K f L m
      | x => False
    | Op.indexAddr T x i =>
      match ev f i, elemS P T with
      | SV.c (CV.v (Value.int k k_1)), some (fst, sz, snd) =>
        match ev f x with
        | SV.c (CV.bs j ln) => 0 ≤ k_1 ∧ k_1 < ↑ln ∧ K (put n f (Oper.dst o) (SV.c (CV.bp j (Int.toNat k_1 * sz)))) L m
        | SV.c (CV.v (Value.slice a ln cap)) =>
          0 ≤ k_1 ∧
            k_1 < ↑ln ∧
              ∃ ad,
                a = some ad ∧
                  K (put n f (Oper.dst o) (SV.c (CV.v (Value.pointer (some (Addr.add ad (Int.toNat k_1 * sz))))))) L m
        | x => False
      | x, x_1 => False
    | Op.makeSlice T l c =>
      match ev f l, ev f c, elemS P T with
      | SV.c (CV.v (Value.int IntKind.i64 a)), SV.c (CV.v (Value.int IntKind.i64 b)), some (e, sz, bytes) =>
        0 ≤ a ∧
          a = b ∧
            0 < sz ∧
              b * ↑bytes ≤ 140737488355328 ∧
                b ≤ 9223372036854775807 ∧
                  match zerosOf P e sz (Int.toNat a) with
                  | some zs =>
                    create n (Oper.dst o) (Box.arr e zs (Int.toNat b)) (fun d => CV.bs d (Int.toNat a)) K f L m
                  | none => False
      | x, x_1, x_2 => False
    | Op.call c =>
      match Call.callee c with
      | Callee.value g => vcCall P n (Oper.dst o) (ev f g) (List.map (ev f) (Array.toList (Call.args c))) K f L m
      | Callee.builtin Builtin.len =>
        match List.map (ev f) (Array.toList (Call.args c)), Array.toList (Call.argTypes c) with
        | [x], [T] =>
          match x with
          | SV.c (CV.bs i ln) => lenK P T = 1 ∧ K (put n f (Oper.dst o) (SV.c (CV.v (Value.int IntKind.i64 ↑ln)))) L m
          | SV.c (CV.v (Value.slice a ln cap)) =>
            lenK P T = 1 ∧ K (put n f (Oper.dst o) (SV.c (CV.v (Value.int IntKind.i64 ↑ln)))) L m
          | SV.c (CV.v (Value.string s)) =>
            lenK P T = 2 ∧ K (put n f (Oper.dst o) (SV.c (CV.v (Value.int IntKind.i64 ↑(ByteArray.size s))))) L m
          | x => False
        | x, x_1 => False
      | Callee.builtin Builtin.append =>
        match List.map (ev f) (Array.toList (Call.args c)), Array.toList (Call.argTypes c) with
        | [s, t], [T, U] => T = U ∧ zeroOk P T = true ∧ vcAppend P n (Oper.dst o) T s t K f L m
        | x, x_1 => False
      | x => False
    | Op.binOp op t x y yType =>
      match ev f x, ev f y with
      | SV.c (CV.v a), SV.c (CV.v b) =>
        vcPure P n (Oper.dst o)
          (do
            eqGuard op t x y a b
            binOp op t a b)
          K f L m
      | x, x_1 => False
    | Op.unOp op xType x =>
      match ev f x with
      | SV.c (CV.v a) => vcPure P n (Oper.dst o) (Op.unary op a) K f L m
      | x => False
    | Op.nilCheck x =>
      match ev f x with
      | SV.c (CV.v (Value.pointer (some ad))) => K (put n f (Oper.dst o) (SV.c (CV.v (Value.pointer (some ad))))) L m
      | SV.c (CV.bp i off) => K (put n f (Oper.dst o) (SV.c (CV.bp i off))) L m
      | SV.c (CV.v (Value.func (Fn.func g) first captured)) =>
        K (put n f (Oper.dst o) (SV.c (CV.v (Value.func (Fn.func g) first captured)))) L m
      | x => False
    | Op.convert s t x =>
      match ev f x with
      | SV.c (CV.v (Value.slice (some ad) ln cap)) =>
        convBS P s t = true ∧
          ∃ bs,
            List.length bs = ln ∧
              (∀ (j : Nat) (b : UInt8),
                  bs[j]? = some b → World.cell? m (Addr.add ad j) = some (Value.int IntKind.u8 ↑(UInt8.toNat b))) ∧
                K (put n f (Oper.dst o) (SV.c (CV.v (Value.string { data := List.toArray bs })))) L m
      | SV.c (CV.bs i ln) =>
        convBS P s t = true ∧
          match look L i with
          | some (Box.arr ty vs cap) =>
            ∃ bs,
              List.length bs = ln ∧
                (∀ (j : Nat) (b : UInt8), bs[j]? = some b → vs[j]? = some (Value.int IntKind.u8 ↑(UInt8.toNat b))) ∧
                  K (put n f (Oper.dst o) (SV.c (CV.v (Value.string { data := List.toArray bs })))) L m
          | x => False
      | SV.c (CV.v a) => vcPure P n (Oper.dst o) (convert s t a) K f L m
      | x => False
    | Op.extract x i =>
      match ev f x with
      | SV.c (CV.v a) => vcPure P n (Oper.dst o) (Instr.extract a i) K f L m
      | x => False
    | Op.index T x i =>
      match ev f x, ev f i with
      | SV.c (CV.v a), SV.c (CV.v b) => vcPure P n (Oper.dst o) (Instr.index T a b) K f L m
      | x, x_1 => False
    | x => False) ∧
  (∀ (P : Program) (n : Nat) (d : Option Nat) (t : TypeId) (K : K0) (f : Regs) (L : Lst) (m : World)
  (i off : Nat),
  vcLoad P n d t (SV.c (CV.bp i off)) K f L m =
    match look L i with
    | some (Box.str ty cs) =>
      match tyS P t with
      | TS.one =>
        match cs[off]? with
        | some c => K (put n f d (SV.c c)) L m
        | none => False
      | TS.agg k =>
        if off + k ≤ List.length cs then K (put n f d (mkAg (List.take k (List.drop off cs)))) L m else False
      | TS.bad => False
    | some (Box.arr ty vs cap) =>
      match tyS P t with
      | TS.one => ∃ v, vs[off]? = some v ∧ K (put n f d (SV.c (CV.v v))) L m
      | TS.agg k =>
        off + k ≤ List.length vs ∧
          K (put n f d (SV.c (CV.v (Value.agg (List.toArray (List.take k (List.drop off vs))))))) L m
      | TS.bad => False
    | none => False) ∧
  (∀ (P : Program) (n : Nat) (d : Option Nat) (t : TypeId) (K : K0) (f : Regs) (L : Lst) (m : World)
  (ad : Addr), vcLoad P n d t (SV.c (CV.v (Value.pointer (some ad)))) K f L m = LoadM P t ad n d K f L m) ∧
  (∀ (P : Program) (n : Nat) (d : Option Nat) (t : TypeId) (x : SV) (K : K0) (f : Regs) (L : Lst)
  (m : World),
  (∀ (i off : Nat), x = SV.c (CV.bp i off) → False) →
    (∀ (ad : Addr), x = SV.c (CV.v (Value.pointer (some ad))) → False) → vcLoad P n d t x K f L m = False) ∧
  (∀ (P : Program) (n : Nat) (d : Option Nat) (t : TypeId) (x y : SV) (K : K0) (f : Regs) (L : Lst)
  (m : World),
  vcStore P n d t x y K f L m =
    match cellsOf? y with
    | some ys =>
      match x with
      | SV.c (CV.bp i off) =>
        match look L i with
        | some (Box.str ty cs) =>
          if
              List.all ys goodC = true ∧
                List.length ys = sizeTS (tyS P t) ∧ tyS P t ≠ TS.bad ∧ off + List.length ys ≤ List.length cs then
            K (put n f d (SV.c (CV.v undef))) (setL L i (Box.str ty (splice cs off ys))) m
          else False
        | some (Box.arr ty vs cap) =>
          match valsOf? ys with
          | some yv =>
            List.length yv = sizeTS (tyS P t) ∧
              tyS P t ≠ TS.bad ∧
                off + List.length yv ≤ List.length vs ∧
                  (∀ (v : Value), v ∈ yv → oneCell v = true) ∧
                    K (put n f d (SV.c (CV.v undef))) (setL L i (Box.arr ty (splice vs off yv) cap)) m
          | none => False
        | none => False
      | SV.c (CV.v (Value.pointer (some ad))) =>
        match valsOf? ys with
        | some yv =>
          List.length yv = sizeTS (tyS P t) ∧
            tyS P t ≠ TS.bad ∧
              Addr.spot ad = none ∧
                (∀ (v : Value), v ∈ yv → oneCell v = true) ∧
                  (∀ (j : Nat),
                      j < List.length yv →
                        Option.isSome (World.cell? m (Addr.add ad j)) = true ∧
                          World.frozen? m (Addr.add ad j) = false) ∧
                    K (put n f d (SV.c (CV.v undef))) L (setCells m ad yv)
        | none => False
      | x => False
    | none => False) :=
  ⟨q40, q41, q42, q43, q44, q45, q46, q47, q48, q49, q50, q51, q52, q53, q54, q55, q56, q57, q58, q59⟩
theorem qs3 : (∀ (P : Program) (n : Nat) (d : Option Nat) (args : List SV) (K : K0) (f : Regs) (L : Lst) (m : World)
  (g : FuncId) (first captured : Array Value),
  vcCall P n d (SV.c (CV.v (Value.func (Fn.func g) first captured))) args K f L m =
    vcOut 12 args (fun vs f L m => CallK P g (first ++ List.toArray vs ++ captured) n d K f L m) f L m) ∧
  (∀ (P : Program) (n : Nat) (d : Option Nat) (fn : SV) (args : List SV) (K : K0) (f : Regs) (L : Lst)
  (m : World),
  (∀ (g : FuncId) (first captured : Array Value), fn = SV.c (CV.v (Value.func (Fn.func g) first captured)) → False) →
    vcCall P n d fn args K f L m = False) ∧
  (∀ (P : Program) (n : Nat) (d : Option Nat) (args : List SV) (K : K0) (f : Regs) (L : Lst) (m : World)
  (g : FuncId) (first captured : Array Value),
  vcCallS P n d (SV.c (CV.v (Value.func (Fn.func g) first captured))) args K f L m =
    vcOut 12 args (fun vs f L m => CallKS P g (first ++ List.toArray vs ++ captured) n d K f L m) f L m) ∧
  (∀ (P : Program) (n : Nat) (d : Option Nat) (fn : SV) (args : List SV) (K : K0) (f : Regs) (L : Lst)
  (m : World),
  (∀ (g : FuncId) (first captured : Array Value), fn = SV.c (CV.v (Value.func (Fn.func g) first captured)) → False) →
    vcCallS P n d fn args K f L m = False) ∧
  (∀ (P : Program) (n : Nat) (o : Oper) (K : K0) (f : Regs) (L : Lst) (m : World),
  vcOpS P n o K f L m =
    match Oper.op o with
    | Op.call c =>
      match Call.callee c with
      | Callee.value g => vcCallS P n (Oper.dst o) (ev f g) (List.map (ev f) (Array.toList (Call.args c))) K f L m
      | x => vcOp P n o K f L m
    | x => vcOp P n o K f L m) ∧
  (∀ (P : Program) (n : Nat) (d : Option Nat) (T : TypeId) (s t : SV) (K : K0) (f : Regs) (L : Lst)
  (m : World),
  vcAppend P n d T s t K f L m =
    match elemS P T with
    | none => False
    | some (e, sz, bytes) =>
      newsOf sz t L m fun q news =>
        (∀ (v : Value), v ∈ news → oneCell v = true) ∧
          0 < sz ∧
            match s with
            | SV.c (CV.bs i ln) =>
              match look L i with
              | some (Box.arr ty vs cap) =>
                ty = e ∧
                  ln * sz ≤ List.length vs ∧
                    ln + q ≤ maxLen ∧
                      (ln + q) * bytes ≤ 140737488355328 ∧
                        ∀ (cap' : Nat),
                          ln + q ≤ cap' →
                            cap' ≤ maxLen →
                              create n d (Box.arr ty (List.take (ln * sz) vs ++ news) cap') (fun d => CV.bs d (ln + q))
                                K f (rem L i) m
              | x => False
            | SV.c (CV.v (Value.slice none 0 0)) =>
              q ≤ maxLen ∧
                q * bytes ≤ 140737488355328 ∧
                  (q = 0 → K (put n f d (SV.c (CV.v (Value.slice none 0 0)))) L m) ∧
                    (0 < q →
                      ∀ (cap' : Nat),
                        q ≤ cap' → cap' ≤ maxLen → create n d (Box.arr e news cap') (fun d => CV.bs d q) K f L m)
            | x => False) ∧
  (∀ (sz : Nat) (L : Lst) (m : World) (k : Nat → List Value → Prop) (j ln : Nat),
  newsOf sz (SV.c (CV.bs j ln)) L m k =
    match look L j with
    | some (Box.arr ty vs cap) => ln * sz ≤ List.length vs ∧ k ln (List.take (ln * sz) vs)
    | x => False) ∧
  (∀ (sz : Nat) (L : Lst) (m : World) (k : Nat → List Value → Prop),
  newsOf sz (SV.c (CV.v (Value.slice none 0 0))) L m k = k 0 []) ∧
  (∀ (sz : Nat) (L : Lst) (m : World) (k : Nat → List Value → Prop) (ad : Addr) (ln cap : Nat),
  newsOf sz (SV.c (CV.v (Value.slice (some ad) ln cap))) L m k =
    ∃ news,
      List.length news = ln * sz ∧
        (∀ (i : Nat) (v : Value), news[i]? = some v → World.cell? m (Addr.add ad i) = some v) ∧ k ln news) ∧
  (∀ (sz : Nat) (t : SV) (L : Lst) (m : World) (k : Nat → List Value → Prop),
  (∀ (j ln : Nat), t = SV.c (CV.bs j ln) → False) →
    (t = SV.c (CV.v (Value.slice none 0 0)) → False) →
      (∀ (ad : Addr) (ln cap : Nat), t = SV.c (CV.v (Value.slice (some ad) ln cap)) → False) → newsOf sz t L m k = False) ∧
  (∀ (n : Nat) (bx : Box) (mk : Nat → CV) (K : K0) (f : Regs) (L : Lst) (m : World) (c : Nat),
  create n (some c) bx mk K f L m =
    if c < n then K (upd (killR c f) c (SV.c (mk c))) ((c, killB c bx) :: rem (killL c L) c) m else False) ∧
  (∀ (n : Nat) (bx : Box) (mk : Nat → CV) (K : K0) (f : Regs) (L : Lst) (m : World),
  create n none bx mk K f L m = False) ∧
  (∀ (n : Nat) (f : Regs) (v : SV) (d_2 : Nat), put n f (some d_2) v = if d_2 < n then upd f d_2 v else f) ∧
  (∀ (n : Nat) (f : Regs) (v : SV), put n f none v = f) ∧
  (∀ (f : Regs) (t : Tmp), ev f (Operand.tmp t) = f t) ∧
  (∀ (f : Regs) (v : Value), ev f (Operand.const v) = SV.c (CV.v v)) ∧
  (∀ (f : Regs) (g : Nat), ev f (Operand.global g) = SV.c (CV.v (Value.pointer (some { block := g, off := 0 })))) ∧
  (∀ (f : Regs) (g : FuncId), ev f (Operand.func g) = SV.c (CV.v (Value.func (Fn.func g) #[] #[]))) ∧
  (∀ (d j o : Nat), killC d (CV.bp j o) = if j = d then CV.dead else CV.bp j o) ∧
  (∀ (d j n : Nat), killC d (CV.bs j n) = if j = d then CV.dead else CV.bs j n) :=
  ⟨q60, q61, q62, q63, q64, q65, q66, q67, q68, q69, q70, q71, q72, q73, q74, q75, q76, q77, q78, q79⟩
theorem qs4 : (∀ (d : Nat) (x : CV),
  (∀ (j o : Nat), x = CV.bp j o → False) → (∀ (j n : Nat), x = CV.bs j n → False) → killC d x = x) ∧
  (∀ (d : Nat) (x_1 : CV), killS d (SV.c x_1) = SV.c (killC d x_1)) ∧
  (∀ (d : Nat) (cs : List CV), killS d (SV.ag cs) = SV.ag (List.map (killC d) cs)) ∧
  (∀ (d : Nat) (t : TypeId) (cs : List CV), killB d (Box.str t cs) = Box.str t (List.map (killC d) cs)) ∧
  (∀ (d : Nat) (t : TypeId) (vs : List Value) (cap : Nat), killB d (Box.arr t vs cap) = Box.arr t vs cap) ∧
  (∀ (d : Nat), killL d [] = []) ∧
  (∀ (d j : Nat) (b : Box) (r : List (Nat × Box)), killL d ((j, b) :: r) = (j, killB d b) :: killL d r) ∧
  (∀ (i b : Nat) (cap : Option Nat) (i_1 off : Nat),
  pubC i b cap (CV.bp i_1 off) =
    if i_1 = i then CV.v (Value.pointer (some { block := b, off := off })) else CV.bp i_1 off) ∧
  (∀ (i b i_1 len c : Nat),
  pubC i b (some c) (CV.bs i_1 len) =
    if i_1 = i then CV.v (Value.slice (some { block := b, off := 0 }) len c) else CV.bs i_1 len) ∧
  (∀ (i b i_1 len : Nat), pubC i b none (CV.bs i_1 len) = if i_1 = i then CV.dead else CV.bs i_1 len) ∧
  (∀ (i b : Nat) (cap : Option Nat) (x : CV),
  (∀ (i off : Nat), x = CV.bp i off → False) → (∀ (i len : Nat), x = CV.bs i len → False) → pubC i b cap x = x) ∧
  (∀ (i b : Nat) (cap : Option Nat) (x_1 : CV), pubS i b cap (SV.c x_1) = SV.c (pubC i b cap x_1)) ∧
  (∀ (i b : Nat) (cap : Option Nat) (cs : List CV),
  pubS i b cap (SV.ag cs) = SV.ag (List.map (pubC i b cap) cs)) ∧
  (∀ (i b : Nat) (cap : Option Nat) (t : TypeId) (cs : List CV),
  pubB i b cap (Box.str t cs) = Box.str t (List.map (pubC i b cap) cs)) ∧
  (∀ (i b : Nat) (cap : Option Nat) (t : TypeId) (vs : List Value) (c : Nat),
  pubB i b cap (Box.arr t vs c) = Box.arr t vs c) ∧
  (∀ (i b : Nat) (cap : Option Nat), pubL i b cap [] = []) ∧
  (∀ (i b : Nat) (cap : Option Nat) (j : Nat) (x_1 : Box) (r : List (Nat × Box)),
  pubL i b cap ((j, x_1) :: r) = (j, pubB i b cap x_1) :: pubL i b cap r) ∧
  (∀ (i off : Nat), refsC (CV.bp i off) = [i]) ∧
  (∀ (i len : Nat), refsC (CV.bs i len) = [i]) ∧
  (∀ (x : CV),
  (∀ (i off : Nat), x = CV.bp i off → False) → (∀ (i len : Nat), x = CV.bs i len → False) → refsC x = []) :=
  ⟨q80, q81, q82, q83, q84, q85, q86, q87, q88, q89, q90, q91, q92, q93, q94, q95, q96, q97, q98, q99⟩
theorem qs5 : (∀ (x_1 : CV), refsS (SV.c x_1) = refsC x_1) ∧
  (∀ (cs : List CV), refsS (SV.ag cs) = List.flatMap refsC cs) ∧
  (valsOf? [] = some []) ∧
  (∀ (x_1 : Value) (r : List CV),
  valsOf? (CV.v x_1 :: r) =
    match valsOf? r with
    | some vs => some (x_1 :: vs)
    | none => none) ∧
  (∀ (head : CV) (tail : List CV), (∀ (x : Value), head = CV.v x → False) → valsOf? (head :: tail) = none) ∧
  (∀ (x : Nat), look [] x = none) ∧
  (∀ (x j : Nat) (b : Box) (r : List (Nat × Box)), look ((j, b) :: r) x = if j = x then some b else look r x) ∧
  (∀ (x : Nat), rem [] x = []) ∧
  (∀ (x j : Nat) (b : Box) (r : List (Nat × Box)),
  rem ((j, b) :: r) x = if j = x then rem r x else (j, b) :: rem r x) ∧
  (∀ (L : Lst) (i : Nat) (b : Box), setL L i b = (i, b) :: rem L i) ∧
  (∀ (a : Array Value), cellsOf? (SV.c (CV.v (Value.agg a))) = some (List.map CV.v (Array.toList a))) ∧
  (∀ (vs : Array Value), cellsOf? (SV.c (CV.v (Value.tuple vs))) = none) ∧
  (cellsOf? (SV.c CV.dead) = none) ∧
  (∀ (x_1 : CV),
  (∀ (a : Array Value), x_1 = CV.v (Value.agg a) → False) →
    (∀ (vs : Array Value), x_1 = CV.v (Value.tuple vs) → False) →
      (x_1 = CV.dead → False) → cellsOf? (SV.c x_1) = some [x_1]) ∧
  (∀ (cs : List CV), cellsOf? (SV.ag cs) = some cs) ∧
  (∀ (cs : List CV),
  mkAg cs =
    match valsOf? cs with
    | some vs => SV.c (CV.v (Value.agg (List.toArray vs)))
    | none => SV.ag cs) ∧
  (∀ (x_1 : Value), toV? (SV.c (CV.v x_1)) = some x_1) ∧
  (∀ (cs : List CV),
  toV? (SV.ag cs) =
    match valsOf? cs with
    | some vs => some (Value.agg (List.toArray vs))
    | none => none) ∧
  (∀ (x : SV),
  (∀ (x_1 : Value), x = SV.c (CV.v x_1) → False) → (∀ (cs : List CV), x = SV.ag cs → False) → toV? x = none) ∧
  (toVs [] = some []) :=
  ⟨q100, q101, q102, q103, q104, q105, q106, q107, q108, q109, q110, q111, q112, q113, q114, q115, q116, q117, q118, q119⟩
theorem qs6 : (∀ (x_1 : SV) (r : List SV),
  toVs (x_1 :: r) =
    match toV? x_1 with
    | some v =>
      match toVs r with
      | some vs => some (v :: vs)
      | none => none
    | none => none) ∧
  (∀ {α : Type} (cs : List α) (off : Nat) (ys : List α),
  splice cs off ys = List.take off cs ++ (ys ++ List.drop (off + List.length ys) cs)) ∧
  (∀ (places : List (Nat × Nat)) (cs : List CV), fillC places cs [] = some cs) ∧
  (∀ (places : List (Nat × Nat)) (cs : List CV) (i : Nat) (s : SV) (r : List (Nat × SV)),
  fillC places cs ((i, s) :: r) =
    match places[i]?, cellsOf? s with
    | some (off, size), some ys =>
      if List.length ys = size ∧ off + size ≤ List.length cs then fillC places (splice cs off ys) r else none
    | x, x_1 => none) ∧
  (∀ (i : Nat) (k : Nat → Option Nat → K0) (f : Regs) (L : Lst) (m : World),
  vcPub i k f L m =
    match look L i with
    | some bx =>
      match valsOf? (Box.cells bx) with
      | some vs =>
        ∀ (b : Nat) (m' : World),
          Pub m m' b (Box.ty bx) vs → k b (Box.cap bx) (pubR i b (Box.cap bx) f) (rem (pubL i b (Box.cap bx) L) i) m'
      | none => False
    | none => False) ∧
  (∀ (x : List SV) (x_1 : List Value → K0), vcOut 0 x x_1 = fun x x_2 x_3 => False) ∧
  (∀ (x : List SV) (x_1 : List Value → K0) (n : Nat),
  vcOut (Nat.succ n) x x_1 = fun f L m =>
    match toVs x with
    | some vs => x_1 vs f L m
    | none =>
      match List.flatMap refsS x with
      | [] => False
      | i :: tail => vcPub i (fun b c => vcOut n (List.map (pubS i b c) x) x_1) f L m) ∧
  (∀ (cells : Array Value), oneCell (Value.agg cells) = false) ∧
  (∀ (vs : Array Value), oneCell (Value.tuple vs) = false) ∧
  (∀ (x : Value),
  (∀ (cells : Array Value), x = Value.agg cells → False) →
    (∀ (vs : Array Value), x = Value.tuple vs → False) → oneCell x = true) ∧
  (∀ (y : Value), goodC (CV.v y) = oneCell y) ∧
  (goodC CV.dead = false) ∧
  (∀ (x : CV), (∀ (y : Value), x = CV.v y → False) → (x = CV.dead → False) → goodC x = true) ∧
  (sizeTS TS.one = 1) ∧
  (∀ (c : Nat), sizeTS (TS.agg c) = c) ∧
  (sizeTS TS.bad = 0) ∧
  (∀ (id : Nat) (ops : Array Oper) (draw : Bool), dsts (Code.region id ops draw) = dstsOps (Array.toList ops)) ∧
  (∀ (a b : Code), dsts (Code.seq a b) = dsts a ++ dsts b) ∧
  (∀ (c : Operand) (a b : Code), dsts (Code.cond c a b) = dsts a ++ dsts b) ∧
  (∀ (id : Nat) (c : Code), dsts (Code.block id c) = dsts c) :=
  ⟨q120, q121, q122, q123, q124, q125, q126, q127, q128, q129, q130, q131, q132, q133, q134, q135, q136, q137, q138, q139⟩
theorem qs7 : (∀ (c : Code), dsts (Code.loop c) = dsts c) ∧
  (∀ (c : Code), dsts (Code.scope c) = dsts c) ∧
  (∀ (x : Code),
  (∀ (id : Nat) (ops : Array Oper) (draw : Bool), x = Code.region id ops draw → False) →
    (∀ (a b : Code), x = Code.seq a b → False) →
      (∀ (c : Operand) (a b : Code), x = Code.cond c a b → False) →
        (∀ (id : Nat) (c : Code), x = Code.block id c → False) →
          (∀ (c : Code), x = Code.loop c → False) → (∀ (c : Code), x = Code.scope c → False) → dsts x = []) ∧
  (dstsOps [] = []) ∧
  (∀ (o : Oper) (r : List Oper),
  dstsOps (o :: r) =
    match Oper.dst o with
    | some d => d :: dstsOps r
    | none => dstsOps r) ∧
  (∀ (P : Program) (L : Lst) (f : Regs) (t : Tmp), resS P L f (ResultVar.tmp t) = some (f t)) ∧
  (∀ (P : Program) (L : Lst) (f : Regs) (p : Tmp) (ty : TypeId),
  resS P L f (ResultVar.cell p ty) =
    match f p with
    | SV.c (CV.bp i 0) =>
      match look L i with
      | some (Box.str ty_1 cs) =>
        match tyS P ty with
        | TS.agg k => if k = List.length cs then some (mkAg cs) else none
        | TS.one =>
          match cs with
          | [c] => some (SV.c c)
          | x => none
        | TS.bad => none
      | x => none
    | x => none) ∧
  (∀ (P : Program) (L : Lst) (f : Regs), resAll P L f [] = some []) ∧
  (∀ (P : Program) (L : Lst) (f : Regs) (r : ResultVar) (rs : List ResultVar),
  resAll P L f (r :: rs) =
    match resS P L f r with
    | some s =>
      match resAll P L f rs with
      | some ss => some (s :: ss)
      | none => none
    | none => none) ∧
  (∀ (v : Value), wrapRes [v] = v) ∧
  (∀ (x : List Value), (∀ (v : Value), x = [v] → False) → wrapRes x = Value.tuple (List.toArray x)) ∧
  (∀ (P : Program) (rs : List ResultVar) (R : Value → World → Prop) (f : Regs) (L : Lst) (m : World),
  vcRet P rs R f L m =
    match resAll P L f rs with
    | some ss => vcOut 12 ss (fun vs x x_1 m' => R (wrapRes vs) m') f L m
    | none => False) ∧
  (∀ (P : Program) (e sz k : Nat),
  zerosOf P e sz k =
    match zeroC P e with
    | some z => if List.length z = sz then some (List.flatten (List.replicate k z)) else none
    | none => none) ∧
  (∀ (t : TypeId) (cs : List CV), Box.cells (Box.str t cs) = cs) ∧
  (∀ (t : TypeId) (vs : List Value) (cap : Nat), Box.cells (Box.arr t vs cap) = List.map CV.v vs) ∧
  (∀ (t : TypeId) (cs : List CV), Box.ty (Box.str t cs) = t) ∧
  (∀ (t : TypeId) (vs : List Value) (cap : Nat), Box.ty (Box.arr t vs cap) = t) ∧
  (∀ (t : TypeId) (cs : List CV), Box.cap (Box.str t cs) = none) ∧
  (∀ (t : TypeId) (vs : List Value) (c : Nat), Box.cap (Box.arr t vs c) = some c) ∧
  (∀ (P : Program) (t : TypeId) (ad : Addr) (n : Nat) (d : Option Nat) (K : K0) (f : Regs) (L : Lst)
  (m : World),
  LoadM P t ad n d K f L m =
    match tyS P t with
    | TS.one => LoadK1 m ad n d K f L
    | TS.agg c => LoadKA m ad c n d K f L
    | TS.bad => False) :=
  ⟨q140, q141, q142, q143, q144, q145, q146, q147, q148, q149, q150, q151, q152, q153, q154, q155, q156, q157, q158, q159⟩
theorem qs8 : (∀ (x : Nat), inN [] x = false) ∧
  (∀ (x w : Nat) (ws : List Nat), inN (w :: ws) x = if w = x then true else inN ws x) ∧
  (∀ (ws : List Nat) (i off : Nat), mixC ws (CV.bp i off) = if inN ws i = true then CV.dead else CV.bp i off) ∧
  (∀ (ws : List Nat) (i len : Nat), mixC ws (CV.bs i len) = if inN ws i = true then CV.dead else CV.bs i len) ∧
  (∀ (ws : List Nat) (x : CV),
  (∀ (i off : Nat), x = CV.bp i off → False) → (∀ (i len : Nat), x = CV.bs i len → False) → mixC ws x = x) ∧
  (∀ (ws : List Nat) (x_1 : CV), mixS ws (SV.c x_1) = SV.c (mixC ws x_1)) ∧
  (∀ (ws : List Nat) (cs : List CV), mixS ws (SV.ag cs) = SV.ag (List.map (mixC ws) cs)) ∧
  (∀ (k : IntKind) (k_1 : Int), ixS (SV.c (CV.v (Value.int k k_1))) = k_1) ∧
  (∀ (x : SV), (∀ (k : IntKind) (k_1 : Int), x = SV.c (CV.v (Value.int k k_1)) → False) → ixS x = 0) ∧
  (∀ (i j i_1 off : Nat),
  renC i j (CV.bp i_1 off) = if i_1 = i then CV.bp j off else if i_1 = j then CV.dead else CV.bp i_1 off) ∧
  (∀ (i j i_1 len : Nat),
  renC i j (CV.bs i_1 len) = if i_1 = i then CV.bs j len else if i_1 = j then CV.dead else CV.bs i_1 len) ∧
  (∀ (i j : Nat) (x : CV),
  (∀ (i off : Nat), x = CV.bp i off → False) → (∀ (i len : Nat), x = CV.bs i len → False) → renC i j x = x) ∧
  (∀ (i j : Nat) (x_1 : CV), renS i j (SV.c x_1) = SV.c (renC i j x_1)) ∧
  (∀ (i j : Nat) (cs : List CV), renS i j (SV.ag cs) = SV.ag (List.map (renC i j) cs)) ∧
  (∀ (i j : Nat) (t : TypeId) (cs : List CV), renB i j (Box.str t cs) = Box.str t (List.map (renC i j) cs)) ∧
  (∀ (i j : Nat) (t : TypeId) (vs : List Value) (c : Nat), renB i j (Box.arr t vs c) = Box.arr t vs c) ∧
  (∀ (i j : Nat), renL i j [] = []) ∧
  (∀ (i j j_1 : Nat) (x_1 : Box) (r : List (Nat × Box)),
  renL i j ((j_1, x_1) :: r) =
    if j_1 = i then (j, renB i j x_1) :: renL i j r
    else if j_1 = j then renL i j r else (j_1, renB i j x_1) :: renL i j r) ∧
  (∀ (ws : List Nat) (f : Regs) (L : Lst) (k : Regs → Lst → Prop), rens ws [] f L k = k f L) ∧
  (∀ (ws : List Nat) (f : Regs) (L : Lst) (k : Regs → Lst → Prop) (i j : Nat) (r : List (Nat × Nat)),
  rens ws ((i, j) :: r) f L k = (i ≠ j ∧ inN ws j = true ∧ rens ws r (renR i j f) (renL i j L) k)) :=
  ⟨q160, q161, q162, q163, q164, q165, q166, q167, q168, q169, q170, q171, q172, q173, q174, q175, q176, q177, q178, q179⟩
theorem qs9 : (∀ (i : Nat), remN i [] = []) ∧
  (∀ (i i_1 : Nat) (tail : List Nat),
  remN i (i_1 :: tail) = if i_1 = i then remN i tail else i_1 :: remN i tail) ∧
  (∀ (ops : Array Oper) (x : Regs), deads ops [] x = True) ∧
  (∀ (ops : Array Oper) (x : Regs) (i : Nat) (r : List Nat),
  deads ops (i :: r) x =
    ((match guardSlot ops i with
      | some d => x d = SV.c CV.dead
      | none => True) ∧
      deads ops r x)) ∧
  (∀ (o : Oper) (f : Regs) (L : Lst),
  cap0 o f L =
    match Oper.op o with
    | Op.call c =>
      match Array.toList (Call.args c) with
      | x :: tail =>
        match ev f x with
        | SV.c (CV.bs i len) =>
          match look L i with
          | some (Box.arr ty vs cap) => cap = 0
          | x => False
        | x => False
      | [] => False
    | x => False) :=
  ⟨q180, q181, q182, q183, q184⟩
theorem qs10 : ((∀ (P : Program) (n : Nat) (K : KE) (f : Regs) (L : Lst) (m : World), vc P n Code.skip K f L m = K Exit.normal f L m) ∧
  (∀ (P : Program) (n : Nat) (K : KE) (f : Regs) (L : Lst) (m : World) (l : Nat),
  vc P n (Code.label l) K f L m = K Exit.normal f L m) ∧
  (∀ (P : Program) (n : Nat) (K : KE) (f : Regs) (L : Lst) (m : World) (id : Nat) (ops : Array Oper),
  vc P n (Code.region id ops false) K f L m = vcl P n ops (K Exit.normal) (Array.toList ops) f L m) ∧
  (∀ (P : Program) (n : Nat) (K : KE) (f : Regs) (L : Lst) (m : World) (x y : Code),
  vc P n (Code.seq x y) K f L m =
    vc P n x
      (fun e =>
        match (motive := Exit → Regs → Lst → World → Prop) e with
        | Exit.normal => vc P n y K
        | e => K e)
      f L m) ∧
  (∀ (P : Program) (n : Nat) (K : KE) (f : Regs) (L : Lst) (m : World) (c : Operand) (x y : Code),
  vc P n (Code.cond c x y) K f L m =
    match ev f c with
    | SV.c (CV.v (Value.bool t)) => (t = true → vc P n x K f L m) ∧ (t = false → vc P n y K f L m)
    | x => False) ∧
  (∀ (P : Program) (n : Nat) (K : KE) (f : Regs) (L : Lst) (m : World) (id : Nat) (c : Code),
  vc P n (Code.block id c) K f L m =
    vc P n c
      (fun e =>
        match (motive := Exit → Regs → Lst → World → Prop) e with
        | Exit.exit id' => if id' = id then K Exit.normal else K (Exit.exit id')
        | e => K e)
      f L m) ∧
  (∀ (P : Program) (n : Nat) (K : KE) (f : Regs) (L : Lst) (m : World) (c : Code),
  vc P n (Code.loop c) K f L m = vcLoop (dsts c) (vc P n c) K f L m) ∧
  (∀ (P : Program) (n : Nat) (K : KE) (f : Regs) (L : Lst) (m : World) (id : Nat),
  vc P n (Code.exit id) K f L m = K (Exit.exit id) f L m) ∧
  (∀ (P : Program) (n : Nat) (K : KE) (f : Regs) (L : Lst) (m : World), vc P n Code.ret K f L m = K Exit.ret f L m) ∧
  (∀ (P : Program) (n : Nat) (f : Regs) (L : Lst) (m : World) (ops : Array Oper) (Q : K0),
  vcl P n ops Q [] f L m = Q f L m) ∧
  (∀ (P : Program) (n : Nat) (f : Regs) (L : Lst) (m : World) (ops : Array Oper) (Q : K0) (dst : Option Nat)
  (op : Op) (ty : TypeId) (pos : String) (af : Array Edge) (r : List Oper),
  vcl P n ops Q ({ dst := dst, op := op, type := ty, pos := pos, after := af, guard := none } :: r) f L m =
    vcOp P n { dst := dst, op := op, type := ty, pos := pos, after := af, guard := none } (vcl P n ops Q r) f L m) ∧
  (∀ (P : Program) (n : Nat) (f : Regs) (L : Lst) (m : World) (ops : Array Oper) (Q : K0) (dst : Option Nat)
  (op : Op) (ty : TypeId) (pos : String) (af : Array Edge) (j : Nat) (r : List Oper),
  vcl P n ops Q ({ dst := dst, op := op, type := ty, pos := pos, after := af, guard := some (j, true) } :: r) f L m =
    match guardSlot ops j with
    | none => False
    | some g =>
      match f g with
      | SV.c (CV.v (Value.bool b)) =>
        Gd b
          (vcOp P n { dst := dst, op := op, type := ty, pos := pos, after := af, guard := some (j, true) }
            (vcl P n ops Q r))
          (upd f g (SV.c (CV.v (Value.bool true)))) (vcl P n ops Q r)
          (put n (upd f g (SV.c (CV.v (Value.bool false)))) dst (SV.c (CV.v undef))) L m
      | SV.c (CV.v (Value.tuple vs)) => vcl P n ops Q r (put n f dst (SV.c (CV.v undef))) L m
      | x => False) ∧
  (∀ (f : Regs) (d : Nat) (v : SV) (s : Nat), upd f d v s = if s = d then v else f s) ∧
  (∀ (f g : Regs) (ws : List Nat) (s : Nat), mix f ws g s = if inN ws s = true then g s else mixS ws (f s)) ∧
  (∀ (f : Regs) (d s : Nat), killR d f s = killS d (f s)) ∧
  (∀ (f : Regs) (i b : Nat) (c : Option Nat) (s : Nat), pubR i b c f s = pubS i b c (f s)) ∧
  (∀ (f : Regs) (i j s : Nat), renR i j f s = renS i j (f s)) ∧
  (∀ (s : Nat), regs0 [] s = SV.c (CV.v undef)) ∧
  (∀ (v : Value) (vs : List Value), regs0 (v :: vs) 0 = SV.c (CV.v v)) ∧
  (∀ (v : Value) (vs : List Value) (s : Nat), regs0 (v :: vs) (s + 1) = regs0 vs s)) ∧
  ((∀ (P : Program) (f : Regs) (L : Lst) (m : World) (rs : List ResultVar) (R : Value → World → Prop),
  endK P rs R Exit.normal f L m = vcRet P rs R f L m) ∧
  (∀ (P : Program) (f : Regs) (L : Lst) (m : World) (rs : List ResultVar) (R : Value → World → Prop),
  endK P rs R Exit.ret f L m = vcRet P rs R f L m) ∧
  (∀ (P : Program) (n : Nat) (K : KE) (f : Regs) (L : Lst) (m : World) (id : Nat) (ops : Array Oper),
  vc P n (Code.region id ops true) K f L m = vcDrawn P n ops (K Exit.normal) f L m) ∧
  (∀ (P : Program) (n : Nat) (f : Regs) (L : Lst) (m : World) (ops : Array Oper) (Q : K0),
  vcPlan P n ops Q Plan.done f L m = Q f L m) ∧
  (∀ (P : Program) (n : Nat) (f : Regs) (L : Lst) (m : World) (ops : Array Oper) (Q : K0),
  vcPlan P n ops Q Plan.nobr f L m = True) ∧
  (∀ (P : Program) (n : Nat) (f : Regs) (L : Lst) (m : World) (ops : Array Oper) (Q : K0) (i : Nat) (p : Plan),
  vcPlan P n ops Q (Plan.take i p) f L m =
    match (Array.toList ops)[i]? with
    | some o => vcGuard n ops o (vcOp P n o) (vcPlan P n ops Q p) f L m
    | none => False) ∧
  (∀ (P : Program) (n : Nat) (f : Regs) (L : Lst) (m : World) (ops : Array Oper) (Q : K0) (i : Nat) (p q : Plan),
  vcPlan P n ops Q (Plan.br i p q) f L m =
    ((match (Array.toList ops)[i]? with
      | some o => vcGuard n ops o (vcOpS P n o) (vcPlan P n ops Q p) f L m
      | none => False) ∧
      vcPlan P n ops Q q f L m)) ∧
  (∀ (n : Nat) (f : Regs) (L : Lst) (m : World) (ops : Array Oper) (S : K0 → K0) (Q : K0) (dst : Option Nat)
  (op : Op) (ty : TypeId) (pos : String) (af : Array Edge),
  vcGuard n ops { dst := dst, op := op, type := ty, pos := pos, after := af, guard := none } S Q f L m = S Q f L m) ∧
  (∀ (n : Nat) (f : Regs) (L : Lst) (m : World) (ops : Array Oper) (S : K0 → K0) (Q : K0) (dst : Option Nat)
  (op : Op) (ty : TypeId) (pos : String) (af : Array Edge) (j : Nat),
  vcGuard n ops { dst := dst, op := op, type := ty, pos := pos, after := af, guard := some (j, true) } S Q f L m =
    match guardSlot ops j with
    | none => False
    | some g =>
      match f g with
      | SV.c (CV.v (Value.bool b)) =>
        Gd b (S Q) (upd f g (SV.c (CV.v (Value.bool true)))) Q
          (put n (upd f g (SV.c (CV.v (Value.bool false)))) dst (SV.c (CV.v undef))) L m
      | SV.c (CV.v (Value.tuple vs)) => Q (put n f dst (SV.c (CV.v undef))) L m
      | x => False) ∧
  (∀ (ops : Array Oper) (j : Nat), guardSlot ops j = Option.bind (Array.toList ops)[j]? fun x => Oper.dst x) ∧
  (∀ (P : Program) (n : Nat) (f : Regs) (L : Lst) (m : World) (ops : Array Oper) (Q : K0) (dst : Option Nat)
  (op : Op) (ty : TypeId) (pos : String) (af : Array Edge) (j : Nat) (r : List Oper),
  vcl P n ops Q ({ dst := dst, op := op, type := ty, pos := pos, after := af, guard := some (j, false) } :: r) f L m =
    match guardSlot ops j with
    | none => False
    | some g =>
      match f g with
      | SV.c (CV.v (Value.bool b)) =>
        Gd b (vcl P n ops Q r) (put n (upd f g (SV.c (CV.v (Value.bool true)))) dst (SV.c (CV.v undef)))
          (vcOp P n { dst := dst, op := op, type := ty, pos := pos, after := af, guard := some (j, false) }
            (vcl P n ops Q r))
          (upd f g (SV.c (CV.v (Value.bool false)))) L m
      | SV.c (CV.v (Value.tuple vs)) => vcl P n ops Q r (put n f dst (SV.c (CV.v undef))) L m
      | x => False) ∧
  (∀ (n : Nat) (f : Regs) (L : Lst) (m : World) (ops : Array Oper) (S : K0 → K0) (Q : K0) (dst : Option Nat)
  (op : Op) (ty : TypeId) (pos : String) (af : Array Edge) (j : Nat),
  vcGuard n ops { dst := dst, op := op, type := ty, pos := pos, after := af, guard := some (j, false) } S Q f L m =
    match guardSlot ops j with
    | none => False
    | some g =>
      match f g with
      | SV.c (CV.v (Value.bool b)) =>
        Gd b Q (put n (upd f g (SV.c (CV.v (Value.bool true)))) dst (SV.c (CV.v undef))) (S Q)
          (upd f g (SV.c (CV.v (Value.bool false)))) L m
      | SV.c (CV.v (Value.tuple vs)) => Q (put n f dst (SV.c (CV.v undef))) L m
      | x => False) ∧
  (∀ (L : Lst) (m : World) (KA : K0) (fA : Regs) (KB : K0) (fB : Regs), Gd true KA fA KB fB L m = KA fA L m) ∧
  (∀ (L : Lst) (m : World) (KA : K0) (fA : Regs) (KB : K0) (fB : Regs), Gd false KA fA KB fB L m = KB fB L m) ∧
  (∀ (P : Program) (n : Nat) (f : Regs) (L : Lst) (m : World) (ops : Array Oper) (Q : K0) (lt : List Nat),
  vcPlanL P n ops Q lt PlanL.done f L m = Q f L m) ∧
  (∀ (P : Program) (n : Nat) (f : Regs) (L : Lst) (m : World) (ops : Array Oper) (Q : K0) (lt : List Nat),
  vcPlanL P n ops Q lt PlanL.nobr f L m = True) ∧
  (∀ (P : Program) (n : Nat) (f : Regs) (L : Lst) (m : World) (ops : Array Oper) (Q : K0) (lt : List Nat) (i : Nat)
  (p : PlanL),
  vcPlanL P n ops Q lt (PlanL.take i p) f L m =
    match (Array.toList ops)[i]? with
    | some o => vcGuard n ops o (vcOp P n o) (vcPlanL P n ops Q lt p) f L m
    | none => False) ∧
  (∀ (P : Program) (n : Nat) (f : Regs) (L : Lst) (m : World) (ops : Array Oper) (Q : K0) (lt : List Nat) (i : Nat)
  (p q : PlanL),
  vcPlanL P n ops Q lt (PlanL.br i p q) f L m =
    (deads ops lt f ∧
      (match (Array.toList ops)[i]? with
        | some o => vcGuard n ops o (vcOpS P n o) (vcPlanL P n ops Q lt p) f L m
        | none => False) ∧
        vcPlanL P n ops Q lt q f L m)) ∧
  (∀ (P : Program) (n : Nat) (f : Regs) (L : Lst) (m : World) (ops : Array Oper) (Q : K0) (lt : List Nat) (i : Nat)
  (p q : PlanL),
  vcPlanL P n ops Q lt (PlanL.brF i p q) f L m =
    (deads ops lt f ∧
      (match (Array.toList ops)[i]? with
        | some o => cap0 o f L ∧ vcGuard n ops o (vcOpS P n o) (vcPlanL P n ops Q lt p) f L m
        | none => False) ∧
        vcPlanL P n ops Q lt q f L m)) ∧
  (∀ (P : Program) (n : Nat) (f : Regs) (L : Lst) (m : World) (ops : Array Oper) (Q : K0) (lt : List Nat) (i : Nat)
  (p : PlanL),
  vcPlanL P n ops Q lt (PlanL.late i p) f L m =
    match (Array.toList ops)[i]?, guardSlot ops i with
    | some o, some d =>
      vcOp P n o (fun x x_1 x_2 => True) f L m ∧ vcPlanL P n ops Q (i :: lt) p (upd f d (SV.c CV.dead)) L m
    | x, x_1 => False)) ∧
  ((∀ (P : Program) (n : Nat) (f : Regs) (L : Lst) (m : World) (ops : Array Oper) (Q : K0) (lt : List Nat) (i : Nat)
  (p : PlanL),
  vcPlanL P n ops Q lt (PlanL.mk i p) f L m =
    (deads ops lt f ∧
      match (Array.toList ops)[i]? with
      | some o => vcOp P n o (vcPlanL P n ops Q (remN i lt) p) f L m
      | none => False)) ∧
  (∀ (P : Program) (n : Nat) (f : Regs) (L : Lst) (m : World) (ops : Array Oper) (Q : K0) (lt : List Nat) (i : Nat)
  (p q : PlanL),
  vcPlanL P n ops Q lt (PlanL.brX i p q) f L m =
    (deads ops lt f ∧
      (match (Array.toList ops)[i]? with
        | some o => vcGuard n ops o (vcOp P n o) (vcPlanL P n ops Q lt p) f L m
        | none => False) ∧
        vcPlanL P n ops Q lt q f L m)) ∧
  (∀ {P : Program} {n : Nat} {d : Option Nat} {K : K0} {f : Regs} {L : Lst} {m : World} {k : IntKind}
  {t : TypeId} {x y : Operand} {a b : Int},
  vcPure P n d
      (do
        eqGuard BinOp.add t x y (Value.int k a) (Value.int k b)
        binOp BinOp.add t (Value.int k a) (Value.int k b))
      K f L m =
    K (put n f d (SV.c (CV.v (Value.int k (IntKind.wrap k (a + b)))))) L m) ∧
  (∀ {P : Program} {n : Nat} {d : Option Nat} {K : K0} {f : Regs} {L : Lst} {m : World} {k : IntKind}
  {t : TypeId} {x y : Operand} {a b : Int},
  vcPure P n d
      (do
        eqGuard BinOp.sub t x y (Value.int k a) (Value.int k b)
        binOp BinOp.sub t (Value.int k a) (Value.int k b))
      K f L m =
    K (put n f d (SV.c (CV.v (Value.int k (IntKind.wrap k (a - b)))))) L m) ∧
  (∀ {P : Program} {n : Nat} {d : Option Nat} {K : K0} {f : Regs} {L : Lst} {m : World} {k : IntKind}
  {t : TypeId} {x y : Operand} {a b : Int},
  vcPure P n d
      (do
        eqGuard BinOp.mul t x y (Value.int k a) (Value.int k b)
        binOp BinOp.mul t (Value.int k a) (Value.int k b))
      K f L m =
    K (put n f d (SV.c (CV.v (Value.int k (IntKind.wrap k (a * b)))))) L m) ∧
  (∀ {P : Program} {n : Nat} {d : Option Nat} {K : K0} {f : Regs} {L : Lst} {m : World} {k : IntKind}
  {t : TypeId} {x y : Operand} {a b : Int},
  vcPure P n d
      (do
        eqGuard BinOp.lss t x y (Value.int k a) (Value.int k b)
        binOp BinOp.lss t (Value.int k a) (Value.int k b))
      K f L m =
    K (put n f d (SV.c (CV.v (Value.bool (decide (a < b)))))) L m) ∧
  (∀ {P : Program} {n : Nat} {d : Option Nat} {K : K0} {f : Regs} {L : Lst} {m : World} {k : IntKind}
  {t : TypeId} {x y : Operand} {a b : Int},
  vcPure P n d
      (do
        eqGuard BinOp.leq t x y (Value.int k a) (Value.int k b)
        binOp BinOp.leq t (Value.int k a) (Value.int k b))
      K f L m =
    K (put n f d (SV.c (CV.v (Value.bool (decide (a ≤ b)))))) L m) ∧
  (∀ {P : Program} {n : Nat} {d : Option Nat} {K : K0} {f : Regs} {L : Lst} {m : World} {k : IntKind}
  {t : TypeId} {x y : Operand} {a b : Int},
  vcPure P n d
      (do
        eqGuard BinOp.gtr t x y (Value.int k a) (Value.int k b)
        binOp BinOp.gtr t (Value.int k a) (Value.int k b))
      K f L m =
    K (put n f d (SV.c (CV.v (Value.bool (decide (b < a)))))) L m) ∧
  (∀ {P : Program} {n : Nat} {d : Option Nat} {K : K0} {f : Regs} {L : Lst} {m : World} {k : IntKind}
  {t : TypeId} {x y : Operand} {a b : Int},
  vcPure P n d
      (do
        eqGuard BinOp.geq t x y (Value.int k a) (Value.int k b)
        binOp BinOp.geq t (Value.int k a) (Value.int k b))
      K f L m =
    K (put n f d (SV.c (CV.v (Value.bool (decide (b ≤ a)))))) L m) ∧
  (∀ {P : Program} {n : Nat} {d : Option Nat} {K : K0} {f : Regs} {L : Lst} {m : World} {k : IntKind}
  {t : TypeId} {x y : Operand} {a b : Int},
  vcPure P n d
      (do
        eqGuard BinOp.eql t x y (Value.int k a) (Value.int k b)
        binOp BinOp.eql t (Value.int k a) (Value.int k b))
      K f L m =
    K (put n f d (SV.c (CV.v (Value.bool (decide (a = b)))))) L m) ∧
  (∀ {P : Program} {n : Nat} {d : Option Nat} {K : K0} {f : Regs} {L : Lst} {m : World} {k : IntKind}
  {t : TypeId} {x y : Operand} {a b : Int},
  vcPure P n d
      (do
        eqGuard BinOp.neq t x y (Value.int k a) (Value.int k b)
        binOp BinOp.neq t (Value.int k a) (Value.int k b))
      K f L m =
    K (put n f d (SV.c (CV.v (Value.bool !decide (a = b))))) L m) ∧
  (∀ {P : Program} {n : Nat} {d : Option Nat} {K : K0} {f : Regs} {L : Lst} {m : World} {t : TypeId}
  {x y : Operand} {a b : ByteArray},
  vcPure P n d
      (do
        eqGuard BinOp.eql t x y (Value.string a) (Value.string b)
        binOp BinOp.eql t (Value.string a) (Value.string b))
      K f L m =
    K (put n f d (SV.c (CV.v (Value.bool (decide (a = b)))))) L m) ∧
  (∀ {P : Program} {n : Nat} {d : Option Nat} {K : K0} {f : Regs} {L : Lst} {m : World} {t : TypeId}
  {x y : Operand} {a b : ByteArray},
  vcPure P n d
      (do
        eqGuard BinOp.neq t x y (Value.string a) (Value.string b)
        binOp BinOp.neq t (Value.string a) (Value.string b))
      K f L m =
    K (put n f d (SV.c (CV.v (Value.bool !decide (a = b))))) L m) ∧
  (∀ {P : Program} {n : Nat} {d : Option Nat} {K : K0} {f : Regs} {L : Lst} {m : World} {a : Bool},
  vcPure P n d (Op.unary UnOp.not (Value.bool a)) K f L m = K (put n f d (SV.c (CV.v (Value.bool !a)))) L m) ∧
  (∀ {P : Program} {n : Nat} {d : Option Nat} {K : K0} {f : Regs} {L : Lst} {m : World} {k : IntKind}
  {a : Int},
  vcPure P n d (Op.unary UnOp.neg (Value.int k a)) K f L m =
    K (put n f d (SV.c (CV.v (Value.int k (IntKind.wrap k (-a)))))) L m) ∧
  (∀ (P : Program) (n : Nat) (o : Oper) (K : K0) (f : Regs) (L : Lst) (m : World),
  vcOp P n o K f L m =
    match Oper.op o with
    | Op.move x => K (put n f (Oper.dst o) (ev f x)) L m
    | Op.assign x => K (put n f (Oper.dst o) (ev f x)) L m
    | Op.pick c a b =>
      match ev f c with
      | SV.c (CV.v (Value.bool t)) => Gd t K (put n f (Oper.dst o) (ev f a)) K (put n f (Oper.dst o) (ev f b)) L m
      | x => False
    | Op.alloc t =>
      match zeroC P t with
      | some z => create n (Oper.dst o) (Box.str t (List.map CV.v z)) (fun d => CV.bp d 0) K f L m
      | none => False
    | Op.box t x =>
      match cellsOf? (ev f x) with
      | some cs => create n (Oper.dst o) (Box.str t cs) (fun d => CV.bp d 0) K f L m
      | none => False
    | Op.build t parts =>
      match zeroC P t, placesS P t with
      | some z, some pl =>
        match fillC pl (List.map CV.v z) (List.map (fun p => (Prod.fst p, ev f (Prod.snd p))) (Array.toList parts)) with
        | some cs => K (put n f (Oper.dst o) (mkAg cs)) L m
        | none => False
      | x, x_1 => False
    | Op.buildSlice T len parts =>
      match elemS P T with
      | some (e, sz, snd) =>
        match zerosOf P e sz len with
        | some zs =>
          match
            fillC (List.map (fun i => (i * sz, sz)) (List.range len)) (List.map CV.v zs)
              (List.map (fun p => (Prod.fst p, ev f (Prod.snd p))) (Array.toList parts)) with
          | some cs =>
            match valsOf? cs with
            | some vs =>
              0 < sz ∧ len * sz ≤ 16777216 ∧ create n (Oper.dst o) (Box.arr e vs len) (fun d => CV.bs d len) K f L m
            | none => False
          | none => False
        | none => False
      | none => False
    | Op.load t x => vcLoad P n (Oper.dst o) t (ev f x) K f L m
    | Op.store t x y => vcStore P n (Oper.dst o) t (ev f x) (ev f y) K f L m
    | Op.fieldAddr T x k =>
      match ev f x with
      | SV.c (CV.bp i off) =>
        match fieldOff P T k with
        | some q => K (put n f (Oper.dst o) (SV.c (CV.bp i (off + q)))) L m
        | none => False
      | SV.c (CV.v a) => vcPure P n (Oper.dst o) (Instr.fieldAt T a k) K f L m
      | x => False
    | Op.indexAddr T x i =>
      match ev f i, elemS P T with
      | SV.c (CV.v (Value.int k k_1)), some (fst, sz, snd) =>
        match ev f x with
        | SV.c (CV.bs j ln) => 0 ≤ k_1 ∧ k_1 < ↑ln ∧ K (put n f (Oper.dst o) (SV.c (CV.bp j (Int.toNat k_1 * sz)))) L m
        | SV.c (CV.v (Value.slice a ln cap)) =>
          0 ≤ k_1 ∧
            k_1 < ↑ln ∧
              ∃ ad,
                a = some ad ∧
                  K (put n f (Oper.dst o) (SV.c (CV.v (Value.pointer (some (Addr.add ad (Int.toNat k_1 * sz))))))) L m
        | x => False
      | x, x_1 => False
    | Op.makeSlice T l c =>
      match ev f l, ev f c, elemS P T with
      | SV.c (CV.v (Value.int IntKind.i64 a)), SV.c (CV.v (Value.int IntKind.i64 b)), some (e, sz, bytes) =>
        0 ≤ a ∧
          a = b ∧
            0 < sz ∧
              b * ↑bytes ≤ 140737488355328 ∧
                b ≤ 9223372036854775807 ∧
                  match zerosOf P e sz (Int.toNat a) with
                  | some zs =>
                    create n (Oper.dst o) (Box.arr e zs (Int.toNat b)) (fun d => CV.bs d (Int.toNat a)) K f L m
                  | none => False
      | x, x_1, x_2 => False
    | Op.call c =>
      match Call.callee c with
      | Callee.value g => vcCall P n (Oper.dst o) (ev f g) (List.map (ev f) (Array.toList (Call.args c))) K f L m
      | Callee.builtin Builtin.len =>
        match List.map (ev f) (Array.toList (Call.args c)), Array.toList (Call.argTypes c) with
        | [x], [T] =>
          match x with
          | SV.c (CV.bs i ln) => lenK P T = 1 ∧ K (put n f (Oper.dst o) (SV.c (CV.v (Value.int IntKind.i64 ↑ln)))) L m
          | SV.c (CV.v (Value.slice a ln cap)) =>
            lenK P T = 1 ∧ K (put n f (Oper.dst o) (SV.c (CV.v (Value.int IntKind.i64 ↑ln)))) L m
          | SV.c (CV.v (Value.string s)) =>
            lenK P T = 2 ∧ K (put n f (Oper.dst o) (SV.c (CV.v (Value.int IntKind.i64 ↑(ByteArray.size s))))) L m
          | x => False
        | x, x_1 => False
      | Callee.builtin Builtin.append =>
        match List.map (ev f) (Array.toList (Call.args c)), Array.toList (Call.argTypes c) with
        | [s, t], [T, U] => T = U ∧ zeroOk P T = true ∧ vcAppend P n (Oper.dst o) T s t K f L m
        | x, x_1 => False
      | x => False
    | Op.binOp op t x y yType =>
      match ev f x, ev f y with
      | SV.c (CV.v a), SV.c (CV.v b) =>
        vcPure P n (Oper.dst o)
          (do
            eqGuard op t x y a b
            binOp op t a b)
          K f L m
      | x, x_1 => False
    | Op.unOp op xType x =>
      match ev f x with
      | SV.c (CV.v a) => vcPure P n (Oper.dst o) (Op.unary op a) K f L m
      | x => False
    | Op.nilCheck x =>
      match ev f x with
      | SV.c (CV.v (Value.pointer (some ad))) => K (put n f (Oper.dst o) (SV.c (CV.v (Value.pointer (some ad))))) L m
      | SV.c (CV.bp i off) => K (put n f (Oper.dst o) (SV.c (CV.bp i off))) L m
      | SV.c (CV.v (Value.func (Fn.func g) first captured)) =>
        K (put n f (Oper.dst o) (SV.c (CV.v (Value.func (Fn.func g) first captured)))) L m
      | x => False
    | Op.convert s t x =>
      match ev f x with
      | SV.c (CV.v (Value.slice (some ad) ln cap)) =>
        convBS P s t = true ∧
          ∃ bs,
            List.length bs = ln ∧
              (∀ (j : Nat) (b : UInt8),
                  bs[j]? = some b → World.cell? m (Addr.add ad j) = some (Value.int IntKind.u8 ↑(UInt8.toNat b))) ∧
                K (put n f (Oper.dst o) (SV.c (CV.v (Value.string { data := List.toArray bs })))) L m
      | SV.c (CV.bs i ln) =>
        convBS P s t = true ∧
          match look L i with
          | some (Box.arr ty vs cap) =>
            ∃ bs,
              List.length bs = ln ∧
                (∀ (j : Nat) (b : UInt8), bs[j]? = some b → vs[j]? = some (Value.int IntKind.u8 ↑(UInt8.toNat b))) ∧
                  K (put n f (Oper.dst o) (SV.c (CV.v (Value.string { data := List.toArray bs })))) L m
          | x => False
      | SV.c (CV.v a) => vcPure P n (Oper.dst o) (convert s t a) K f L m
      | x => False
    | Op.extract x i =>
      match ev f x with
      | SV.c (CV.v a) => vcPure P n (Oper.dst o) (Instr.extract a i) K f L m
      | x => False
    | Op.index T x i =>
      match ev f x, ev f i with
      | SV.c (CV.v a), SV.c (CV.v b) => vcPure P n (Oper.dst o) (Instr.index T a b) K f L m
      | x, x_1 => False
    | x => False) ∧
  (∀ (P : Program) (n : Nat) (d : Option Nat) (t : TypeId) (K : K0) (f : Regs) (L : Lst) (m : World)
  (i off : Nat),
  vcLoad P n d t (SV.c (CV.bp i off)) K f L m =
    match look L i with
    | some (Box.str ty cs) =>
      match tyS P t with
      | TS.one =>
        match cs[off]? with
        | some c => K (put n f d (SV.c c)) L m
        | none => False
      | TS.agg k =>
        if off + k ≤ List.length cs then K (put n f d (mkAg (List.take k (List.drop off cs)))) L m else False
      | TS.bad => False
    | some (Box.arr ty vs cap) =>
      match tyS P t with
      | TS.one => ∃ v, vs[off]? = some v ∧ K (put n f d (SV.c (CV.v v))) L m
      | TS.agg k =>
        off + k ≤ List.length vs ∧
          K (put n f d (SV.c (CV.v (Value.agg (List.toArray (List.take k (List.drop off vs))))))) L m
      | TS.bad => False
    | none => False) ∧
  (∀ (P : Program) (n : Nat) (d : Option Nat) (t : TypeId) (K : K0) (f : Regs) (L : Lst) (m : World)
  (ad : Addr), vcLoad P n d t (SV.c (CV.v (Value.pointer (some ad)))) K f L m = LoadM P t ad n d K f L m) ∧
  (∀ (P : Program) (n : Nat) (d : Option Nat) (t : TypeId) (x : SV) (K : K0) (f : Regs) (L : Lst)
  (m : World),
  (∀ (i off : Nat), x = SV.c (CV.bp i off) → False) →
    (∀ (ad : Addr), x = SV.c (CV.v (Value.pointer (some ad))) → False) → vcLoad P n d t x K f L m = False) ∧
  (∀ (P : Program) (n : Nat) (d : Option Nat) (t : TypeId) (x y : SV) (K : K0) (f : Regs) (L : Lst)
  (m : World),
  vcStore P n d t x y K f L m =
    match cellsOf? y with
    | some ys =>
      match x with
      | SV.c (CV.bp i off) =>
        match look L i with
        | some (Box.str ty cs) =>
          if
              List.all ys goodC = true ∧
                List.length ys = sizeTS (tyS P t) ∧ tyS P t ≠ TS.bad ∧ off + List.length ys ≤ List.length cs then
            K (put n f d (SV.c (CV.v undef))) (setL L i (Box.str ty (splice cs off ys))) m
          else False
        | some (Box.arr ty vs cap) =>
          match valsOf? ys with
          | some yv =>
            List.length yv = sizeTS (tyS P t) ∧
              tyS P t ≠ TS.bad ∧
                off + List.length yv ≤ List.length vs ∧
                  (∀ (v : Value), v ∈ yv → oneCell v = true) ∧
                    K (put n f d (SV.c (CV.v undef))) (setL L i (Box.arr ty (splice vs off yv) cap)) m
          | none => False
        | none => False
      | SV.c (CV.v (Value.pointer (some ad))) =>
        match valsOf? ys with
        | some yv =>
          List.length yv = sizeTS (tyS P t) ∧
            tyS P t ≠ TS.bad ∧
              Addr.spot ad = none ∧
                (∀ (v : Value), v ∈ yv → oneCell v = true) ∧
                  (∀ (j : Nat),
                      j < List.length yv →
                        Option.isSome (World.cell? m (Addr.add ad j)) = true ∧
                          World.frozen? m (Addr.add ad j) = false) ∧
                    K (put n f d (SV.c (CV.v undef))) L (setCells m ad yv)
        | none => False
      | x => False
    | none => False)) ∧
  ((∀ (P : Program) (n : Nat) (d : Option Nat) (args : List SV) (K : K0) (f : Regs) (L : Lst) (m : World)
  (g : FuncId) (first captured : Array Value),
  vcCall P n d (SV.c (CV.v (Value.func (Fn.func g) first captured))) args K f L m =
    vcOut 12 args (fun vs f L m => CallK P g (first ++ List.toArray vs ++ captured) n d K f L m) f L m) ∧
  (∀ (P : Program) (n : Nat) (d : Option Nat) (fn : SV) (args : List SV) (K : K0) (f : Regs) (L : Lst)
  (m : World),
  (∀ (g : FuncId) (first captured : Array Value), fn = SV.c (CV.v (Value.func (Fn.func g) first captured)) → False) →
    vcCall P n d fn args K f L m = False) ∧
  (∀ (P : Program) (n : Nat) (d : Option Nat) (args : List SV) (K : K0) (f : Regs) (L : Lst) (m : World)
  (g : FuncId) (first captured : Array Value),
  vcCallS P n d (SV.c (CV.v (Value.func (Fn.func g) first captured))) args K f L m =
    vcOut 12 args (fun vs f L m => CallKS P g (first ++ List.toArray vs ++ captured) n d K f L m) f L m) ∧
  (∀ (P : Program) (n : Nat) (d : Option Nat) (fn : SV) (args : List SV) (K : K0) (f : Regs) (L : Lst)
  (m : World),
  (∀ (g : FuncId) (first captured : Array Value), fn = SV.c (CV.v (Value.func (Fn.func g) first captured)) → False) →
    vcCallS P n d fn args K f L m = False) ∧
  (∀ (P : Program) (n : Nat) (o : Oper) (K : K0) (f : Regs) (L : Lst) (m : World),
  vcOpS P n o K f L m =
    match Oper.op o with
    | Op.call c =>
      match Call.callee c with
      | Callee.value g => vcCallS P n (Oper.dst o) (ev f g) (List.map (ev f) (Array.toList (Call.args c))) K f L m
      | x => vcOp P n o K f L m
    | x => vcOp P n o K f L m) ∧
  (∀ (P : Program) (n : Nat) (d : Option Nat) (T : TypeId) (s t : SV) (K : K0) (f : Regs) (L : Lst)
  (m : World),
  vcAppend P n d T s t K f L m =
    match elemS P T with
    | none => False
    | some (e, sz, bytes) =>
      newsOf sz t L m fun q news =>
        (∀ (v : Value), v ∈ news → oneCell v = true) ∧
          0 < sz ∧
            match s with
            | SV.c (CV.bs i ln) =>
              match look L i with
              | some (Box.arr ty vs cap) =>
                ty = e ∧
                  ln * sz ≤ List.length vs ∧
                    ln + q ≤ maxLen ∧
                      (ln + q) * bytes ≤ 140737488355328 ∧
                        ∀ (cap' : Nat),
                          ln + q ≤ cap' →
                            cap' ≤ maxLen →
                              create n d (Box.arr ty (List.take (ln * sz) vs ++ news) cap') (fun d => CV.bs d (ln + q))
                                K f (rem L i) m
              | x => False
            | SV.c (CV.v (Value.slice none 0 0)) =>
              q ≤ maxLen ∧
                q * bytes ≤ 140737488355328 ∧
                  (q = 0 → K (put n f d (SV.c (CV.v (Value.slice none 0 0)))) L m) ∧
                    (0 < q →
                      ∀ (cap' : Nat),
                        q ≤ cap' → cap' ≤ maxLen → create n d (Box.arr e news cap') (fun d => CV.bs d q) K f L m)
            | x => False) ∧
  (∀ (sz : Nat) (L : Lst) (m : World) (k : Nat → List Value → Prop) (j ln : Nat),
  newsOf sz (SV.c (CV.bs j ln)) L m k =
    match look L j with
    | some (Box.arr ty vs cap) => ln * sz ≤ List.length vs ∧ k ln (List.take (ln * sz) vs)
    | x => False) ∧
  (∀ (sz : Nat) (L : Lst) (m : World) (k : Nat → List Value → Prop),
  newsOf sz (SV.c (CV.v (Value.slice none 0 0))) L m k = k 0 []) ∧
  (∀ (sz : Nat) (L : Lst) (m : World) (k : Nat → List Value → Prop) (ad : Addr) (ln cap : Nat),
  newsOf sz (SV.c (CV.v (Value.slice (some ad) ln cap))) L m k =
    ∃ news,
      List.length news = ln * sz ∧
        (∀ (i : Nat) (v : Value), news[i]? = some v → World.cell? m (Addr.add ad i) = some v) ∧ k ln news) ∧
  (∀ (sz : Nat) (t : SV) (L : Lst) (m : World) (k : Nat → List Value → Prop),
  (∀ (j ln : Nat), t = SV.c (CV.bs j ln) → False) →
    (t = SV.c (CV.v (Value.slice none 0 0)) → False) →
      (∀ (ad : Addr) (ln cap : Nat), t = SV.c (CV.v (Value.slice (some ad) ln cap)) → False) → newsOf sz t L m k = False) ∧
  (∀ (n : Nat) (bx : Box) (mk : Nat → CV) (K : K0) (f : Regs) (L : Lst) (m : World) (c : Nat),
  create n (some c) bx mk K f L m =
    if c < n then K (upd (killR c f) c (SV.c (mk c))) ((c, killB c bx) :: rem (killL c L) c) m else False) ∧
  (∀ (n : Nat) (bx : Box) (mk : Nat → CV) (K : K0) (f : Regs) (L : Lst) (m : World),
  create n none bx mk K f L m = False) ∧
  (∀ (n : Nat) (f : Regs) (v : SV) (d_2 : Nat), put n f (some d_2) v = if d_2 < n then upd f d_2 v else f) ∧
  (∀ (n : Nat) (f : Regs) (v : SV), put n f none v = f) ∧
  (∀ (f : Regs) (t : Tmp), ev f (Operand.tmp t) = f t) ∧
  (∀ (f : Regs) (v : Value), ev f (Operand.const v) = SV.c (CV.v v)) ∧
  (∀ (f : Regs) (g : Nat), ev f (Operand.global g) = SV.c (CV.v (Value.pointer (some { block := g, off := 0 })))) ∧
  (∀ (f : Regs) (g : FuncId), ev f (Operand.func g) = SV.c (CV.v (Value.func (Fn.func g) #[] #[]))) ∧
  (∀ (d j o : Nat), killC d (CV.bp j o) = if j = d then CV.dead else CV.bp j o) ∧
  (∀ (d j n : Nat), killC d (CV.bs j n) = if j = d then CV.dead else CV.bs j n)) ∧
  ((∀ (d : Nat) (x : CV),
  (∀ (j o : Nat), x = CV.bp j o → False) → (∀ (j n : Nat), x = CV.bs j n → False) → killC d x = x) ∧
  (∀ (d : Nat) (x_1 : CV), killS d (SV.c x_1) = SV.c (killC d x_1)) ∧
  (∀ (d : Nat) (cs : List CV), killS d (SV.ag cs) = SV.ag (List.map (killC d) cs)) ∧
  (∀ (d : Nat) (t : TypeId) (cs : List CV), killB d (Box.str t cs) = Box.str t (List.map (killC d) cs)) ∧
  (∀ (d : Nat) (t : TypeId) (vs : List Value) (cap : Nat), killB d (Box.arr t vs cap) = Box.arr t vs cap) ∧
  (∀ (d : Nat), killL d [] = []) ∧
  (∀ (d j : Nat) (b : Box) (r : List (Nat × Box)), killL d ((j, b) :: r) = (j, killB d b) :: killL d r) ∧
  (∀ (i b : Nat) (cap : Option Nat) (i_1 off : Nat),
  pubC i b cap (CV.bp i_1 off) =
    if i_1 = i then CV.v (Value.pointer (some { block := b, off := off })) else CV.bp i_1 off) ∧
  (∀ (i b i_1 len c : Nat),
  pubC i b (some c) (CV.bs i_1 len) =
    if i_1 = i then CV.v (Value.slice (some { block := b, off := 0 }) len c) else CV.bs i_1 len) ∧
  (∀ (i b i_1 len : Nat), pubC i b none (CV.bs i_1 len) = if i_1 = i then CV.dead else CV.bs i_1 len) ∧
  (∀ (i b : Nat) (cap : Option Nat) (x : CV),
  (∀ (i off : Nat), x = CV.bp i off → False) → (∀ (i len : Nat), x = CV.bs i len → False) → pubC i b cap x = x) ∧
  (∀ (i b : Nat) (cap : Option Nat) (x_1 : CV), pubS i b cap (SV.c x_1) = SV.c (pubC i b cap x_1)) ∧
  (∀ (i b : Nat) (cap : Option Nat) (cs : List CV),
  pubS i b cap (SV.ag cs) = SV.ag (List.map (pubC i b cap) cs)) ∧
  (∀ (i b : Nat) (cap : Option Nat) (t : TypeId) (cs : List CV),
  pubB i b cap (Box.str t cs) = Box.str t (List.map (pubC i b cap) cs)) ∧
  (∀ (i b : Nat) (cap : Option Nat) (t : TypeId) (vs : List Value) (c : Nat),
  pubB i b cap (Box.arr t vs c) = Box.arr t vs c) ∧
  (∀ (i b : Nat) (cap : Option Nat), pubL i b cap [] = []) ∧
  (∀ (i b : Nat) (cap : Option Nat) (j : Nat) (x_1 : Box) (r : List (Nat × Box)),
  pubL i b cap ((j, x_1) :: r) = (j, pubB i b cap x_1) :: pubL i b cap r) ∧
  (∀ (i off : Nat), refsC (CV.bp i off) = [i]) ∧
  (∀ (i len : Nat), refsC (CV.bs i len) = [i]) ∧
  (∀ (x : CV),
  (∀ (i off : Nat), x = CV.bp i off → False) → (∀ (i len : Nat), x = CV.bs i len → False) → refsC x = [])) ∧
  ((∀ (x_1 : CV), refsS (SV.c x_1) = refsC x_1) ∧
  (∀ (cs : List CV), refsS (SV.ag cs) = List.flatMap refsC cs) ∧
  (valsOf? [] = some []) ∧
  (∀ (x_1 : Value) (r : List CV),
  valsOf? (CV.v x_1 :: r) =
    match valsOf? r with
    | some vs => some (x_1 :: vs)
    | none => none) ∧
  (∀ (head : CV) (tail : List CV), (∀ (x : Value), head = CV.v x → False) → valsOf? (head :: tail) = none) ∧
  (∀ (x : Nat), look [] x = none) ∧
  (∀ (x j : Nat) (b : Box) (r : List (Nat × Box)), look ((j, b) :: r) x = if j = x then some b else look r x) ∧
  (∀ (x : Nat), rem [] x = []) ∧
  (∀ (x j : Nat) (b : Box) (r : List (Nat × Box)),
  rem ((j, b) :: r) x = if j = x then rem r x else (j, b) :: rem r x) ∧
  (∀ (L : Lst) (i : Nat) (b : Box), setL L i b = (i, b) :: rem L i) ∧
  (∀ (a : Array Value), cellsOf? (SV.c (CV.v (Value.agg a))) = some (List.map CV.v (Array.toList a))) ∧
  (∀ (vs : Array Value), cellsOf? (SV.c (CV.v (Value.tuple vs))) = none) ∧
  (cellsOf? (SV.c CV.dead) = none) ∧
  (∀ (x_1 : CV),
  (∀ (a : Array Value), x_1 = CV.v (Value.agg a) → False) →
    (∀ (vs : Array Value), x_1 = CV.v (Value.tuple vs) → False) →
      (x_1 = CV.dead → False) → cellsOf? (SV.c x_1) = some [x_1]) ∧
  (∀ (cs : List CV), cellsOf? (SV.ag cs) = some cs) ∧
  (∀ (cs : List CV),
  mkAg cs =
    match valsOf? cs with
    | some vs => SV.c (CV.v (Value.agg (List.toArray vs)))
    | none => SV.ag cs) ∧
  (∀ (x_1 : Value), toV? (SV.c (CV.v x_1)) = some x_1) ∧
  (∀ (cs : List CV),
  toV? (SV.ag cs) =
    match valsOf? cs with
    | some vs => some (Value.agg (List.toArray vs))
    | none => none) ∧
  (∀ (x : SV),
  (∀ (x_1 : Value), x = SV.c (CV.v x_1) → False) → (∀ (cs : List CV), x = SV.ag cs → False) → toV? x = none) ∧
  (toVs [] = some [])) ∧
  ((∀ (x_1 : SV) (r : List SV),
  toVs (x_1 :: r) =
    match toV? x_1 with
    | some v =>
      match toVs r with
      | some vs => some (v :: vs)
      | none => none
    | none => none) ∧
  (∀ {α : Type} (cs : List α) (off : Nat) (ys : List α),
  splice cs off ys = List.take off cs ++ (ys ++ List.drop (off + List.length ys) cs)) ∧
  (∀ (places : List (Nat × Nat)) (cs : List CV), fillC places cs [] = some cs) ∧
  (∀ (places : List (Nat × Nat)) (cs : List CV) (i : Nat) (s : SV) (r : List (Nat × SV)),
  fillC places cs ((i, s) :: r) =
    match places[i]?, cellsOf? s with
    | some (off, size), some ys =>
      if List.length ys = size ∧ off + size ≤ List.length cs then fillC places (splice cs off ys) r else none
    | x, x_1 => none) ∧
  (∀ (i : Nat) (k : Nat → Option Nat → K0) (f : Regs) (L : Lst) (m : World),
  vcPub i k f L m =
    match look L i with
    | some bx =>
      match valsOf? (Box.cells bx) with
      | some vs =>
        ∀ (b : Nat) (m' : World),
          Pub m m' b (Box.ty bx) vs → k b (Box.cap bx) (pubR i b (Box.cap bx) f) (rem (pubL i b (Box.cap bx) L) i) m'
      | none => False
    | none => False) ∧
  (∀ (x : List SV) (x_1 : List Value → K0), vcOut 0 x x_1 = fun x x_2 x_3 => False) ∧
  (∀ (x : List SV) (x_1 : List Value → K0) (n : Nat),
  vcOut (Nat.succ n) x x_1 = fun f L m =>
    match toVs x with
    | some vs => x_1 vs f L m
    | none =>
      match List.flatMap refsS x with
      | [] => False
      | i :: tail => vcPub i (fun b c => vcOut n (List.map (pubS i b c) x) x_1) f L m) ∧
  (∀ (cells : Array Value), oneCell (Value.agg cells) = false) ∧
  (∀ (vs : Array Value), oneCell (Value.tuple vs) = false) ∧
  (∀ (x : Value),
  (∀ (cells : Array Value), x = Value.agg cells → False) →
    (∀ (vs : Array Value), x = Value.tuple vs → False) → oneCell x = true) ∧
  (∀ (y : Value), goodC (CV.v y) = oneCell y) ∧
  (goodC CV.dead = false) ∧
  (∀ (x : CV), (∀ (y : Value), x = CV.v y → False) → (x = CV.dead → False) → goodC x = true) ∧
  (sizeTS TS.one = 1) ∧
  (∀ (c : Nat), sizeTS (TS.agg c) = c) ∧
  (sizeTS TS.bad = 0) ∧
  (∀ (id : Nat) (ops : Array Oper) (draw : Bool), dsts (Code.region id ops draw) = dstsOps (Array.toList ops)) ∧
  (∀ (a b : Code), dsts (Code.seq a b) = dsts a ++ dsts b) ∧
  (∀ (c : Operand) (a b : Code), dsts (Code.cond c a b) = dsts a ++ dsts b) ∧
  (∀ (id : Nat) (c : Code), dsts (Code.block id c) = dsts c)) ∧
  ((∀ (c : Code), dsts (Code.loop c) = dsts c) ∧
  (∀ (c : Code), dsts (Code.scope c) = dsts c) ∧
  (∀ (x : Code),
  (∀ (id : Nat) (ops : Array Oper) (draw : Bool), x = Code.region id ops draw → False) →
    (∀ (a b : Code), x = Code.seq a b → False) →
      (∀ (c : Operand) (a b : Code), x = Code.cond c a b → False) →
        (∀ (id : Nat) (c : Code), x = Code.block id c → False) →
          (∀ (c : Code), x = Code.loop c → False) → (∀ (c : Code), x = Code.scope c → False) → dsts x = []) ∧
  (dstsOps [] = []) ∧
  (∀ (o : Oper) (r : List Oper),
  dstsOps (o :: r) =
    match Oper.dst o with
    | some d => d :: dstsOps r
    | none => dstsOps r) ∧
  (∀ (P : Program) (L : Lst) (f : Regs) (t : Tmp), resS P L f (ResultVar.tmp t) = some (f t)) ∧
  (∀ (P : Program) (L : Lst) (f : Regs) (p : Tmp) (ty : TypeId),
  resS P L f (ResultVar.cell p ty) =
    match f p with
    | SV.c (CV.bp i 0) =>
      match look L i with
      | some (Box.str ty_1 cs) =>
        match tyS P ty with
        | TS.agg k => if k = List.length cs then some (mkAg cs) else none
        | TS.one =>
          match cs with
          | [c] => some (SV.c c)
          | x => none
        | TS.bad => none
      | x => none
    | x => none) ∧
  (∀ (P : Program) (L : Lst) (f : Regs), resAll P L f [] = some []) ∧
  (∀ (P : Program) (L : Lst) (f : Regs) (r : ResultVar) (rs : List ResultVar),
  resAll P L f (r :: rs) =
    match resS P L f r with
    | some s =>
      match resAll P L f rs with
      | some ss => some (s :: ss)
      | none => none
    | none => none) ∧
  (∀ (v : Value), wrapRes [v] = v) ∧
  (∀ (x : List Value), (∀ (v : Value), x = [v] → False) → wrapRes x = Value.tuple (List.toArray x)) ∧
  (∀ (P : Program) (rs : List ResultVar) (R : Value → World → Prop) (f : Regs) (L : Lst) (m : World),
  vcRet P rs R f L m =
    match resAll P L f rs with
    | some ss => vcOut 12 ss (fun vs x x_1 m' => R (wrapRes vs) m') f L m
    | none => False) ∧
  (∀ (P : Program) (e sz k : Nat),
  zerosOf P e sz k =
    match zeroC P e with
    | some z => if List.length z = sz then some (List.flatten (List.replicate k z)) else none
    | none => none) ∧
  (∀ (t : TypeId) (cs : List CV), Box.cells (Box.str t cs) = cs) ∧
  (∀ (t : TypeId) (vs : List Value) (cap : Nat), Box.cells (Box.arr t vs cap) = List.map CV.v vs) ∧
  (∀ (t : TypeId) (cs : List CV), Box.ty (Box.str t cs) = t) ∧
  (∀ (t : TypeId) (vs : List Value) (cap : Nat), Box.ty (Box.arr t vs cap) = t) ∧
  (∀ (t : TypeId) (cs : List CV), Box.cap (Box.str t cs) = none) ∧
  (∀ (t : TypeId) (vs : List Value) (c : Nat), Box.cap (Box.arr t vs c) = some c) ∧
  (∀ (P : Program) (t : TypeId) (ad : Addr) (n : Nat) (d : Option Nat) (K : K0) (f : Regs) (L : Lst)
  (m : World),
  LoadM P t ad n d K f L m =
    match tyS P t with
    | TS.one => LoadK1 m ad n d K f L
    | TS.agg c => LoadKA m ad c n d K f L
    | TS.bad => False)) ∧
  ((∀ (x : Nat), inN [] x = false) ∧
  (∀ (x w : Nat) (ws : List Nat), inN (w :: ws) x = if w = x then true else inN ws x) ∧
  (∀ (ws : List Nat) (i off : Nat), mixC ws (CV.bp i off) = if inN ws i = true then CV.dead else CV.bp i off) ∧
  (∀ (ws : List Nat) (i len : Nat), mixC ws (CV.bs i len) = if inN ws i = true then CV.dead else CV.bs i len) ∧
  (∀ (ws : List Nat) (x : CV),
  (∀ (i off : Nat), x = CV.bp i off → False) → (∀ (i len : Nat), x = CV.bs i len → False) → mixC ws x = x) ∧
  (∀ (ws : List Nat) (x_1 : CV), mixS ws (SV.c x_1) = SV.c (mixC ws x_1)) ∧
  (∀ (ws : List Nat) (cs : List CV), mixS ws (SV.ag cs) = SV.ag (List.map (mixC ws) cs)) ∧
  (∀ (k : IntKind) (k_1 : Int), ixS (SV.c (CV.v (Value.int k k_1))) = k_1) ∧
  (∀ (x : SV), (∀ (k : IntKind) (k_1 : Int), x = SV.c (CV.v (Value.int k k_1)) → False) → ixS x = 0) ∧
  (∀ (i j i_1 off : Nat),
  renC i j (CV.bp i_1 off) = if i_1 = i then CV.bp j off else if i_1 = j then CV.dead else CV.bp i_1 off) ∧
  (∀ (i j i_1 len : Nat),
  renC i j (CV.bs i_1 len) = if i_1 = i then CV.bs j len else if i_1 = j then CV.dead else CV.bs i_1 len) ∧
  (∀ (i j : Nat) (x : CV),
  (∀ (i off : Nat), x = CV.bp i off → False) → (∀ (i len : Nat), x = CV.bs i len → False) → renC i j x = x) ∧
  (∀ (i j : Nat) (x_1 : CV), renS i j (SV.c x_1) = SV.c (renC i j x_1)) ∧
  (∀ (i j : Nat) (cs : List CV), renS i j (SV.ag cs) = SV.ag (List.map (renC i j) cs)) ∧
  (∀ (i j : Nat) (t : TypeId) (cs : List CV), renB i j (Box.str t cs) = Box.str t (List.map (renC i j) cs)) ∧
  (∀ (i j : Nat) (t : TypeId) (vs : List Value) (c : Nat), renB i j (Box.arr t vs c) = Box.arr t vs c) ∧
  (∀ (i j : Nat), renL i j [] = []) ∧
  (∀ (i j j_1 : Nat) (x_1 : Box) (r : List (Nat × Box)),
  renL i j ((j_1, x_1) :: r) =
    if j_1 = i then (j, renB i j x_1) :: renL i j r
    else if j_1 = j then renL i j r else (j_1, renB i j x_1) :: renL i j r) ∧
  (∀ (ws : List Nat) (f : Regs) (L : Lst) (k : Regs → Lst → Prop), rens ws [] f L k = k f L) ∧
  (∀ (ws : List Nat) (f : Regs) (L : Lst) (k : Regs → Lst → Prop) (i j : Nat) (r : List (Nat × Nat)),
  rens ws ((i, j) :: r) f L k = (i ≠ j ∧ inN ws j = true ∧ rens ws r (renR i j f) (renL i j L) k))) ∧
  ((∀ (i : Nat), remN i [] = []) ∧
  (∀ (i i_1 : Nat) (tail : List Nat),
  remN i (i_1 :: tail) = if i_1 = i then remN i tail else i_1 :: remN i tail) ∧
  (∀ (ops : Array Oper) (x : Regs), deads ops [] x = True) ∧
  (∀ (ops : Array Oper) (x : Regs) (i : Nat) (r : List Nat),
  deads ops (i :: r) x =
    ((match guardSlot ops i with
      | some d => x d = SV.c CV.dead
      | none => True) ∧
      deads ops r x)) ∧
  (∀ (o : Oper) (f : Regs) (L : Lst),
  cap0 o f L =
    match Oper.op o with
    | Op.call c =>
      match Array.toList (Call.args c) with
      | x :: tail =>
        match ev f x with
        | SV.c (CV.bs i len) =>
          match look L i with
          | some (Box.arr ty vs cap) => cap = 0
          | x => False
        | x => False
      | [] => False
    | x => False)) :=
  ⟨qs0, qs1, qs2, qs3, qs4, qs5, qs6, qs7, qs8, qs9⟩
theorem vcs : ((∀ (P : Program) (n : Nat) (K : KE) (f : Regs) (L : Lst) (m : World), vc P n Code.skip K f L m = K Exit.normal f L m) ∧
  (∀ (P : Program) (n : Nat) (K : KE) (f : Regs) (L : Lst) (m : World) (l : Nat),
  vc P n (Code.label l) K f L m = K Exit.normal f L m) ∧
  (∀ (P : Program) (n : Nat) (K : KE) (f : Regs) (L : Lst) (m : World) (id : Nat) (ops : Array Oper),
  vc P n (Code.region id ops false) K f L m = vcl P n ops (K Exit.normal) (Array.toList ops) f L m) ∧
  (∀ (P : Program) (n : Nat) (K : KE) (f : Regs) (L : Lst) (m : World) (x y : Code),
  vc P n (Code.seq x y) K f L m =
    vc P n x
      (fun e =>
        match (motive := Exit → Regs → Lst → World → Prop) e with
        | Exit.normal => vc P n y K
        | e => K e)
      f L m) ∧
  (∀ (P : Program) (n : Nat) (K : KE) (f : Regs) (L : Lst) (m : World) (c : Operand) (x y : Code),
  vc P n (Code.cond c x y) K f L m =
    match ev f c with
    | SV.c (CV.v (Value.bool t)) => (t = true → vc P n x K f L m) ∧ (t = false → vc P n y K f L m)
    | x => False) ∧
  (∀ (P : Program) (n : Nat) (K : KE) (f : Regs) (L : Lst) (m : World) (id : Nat) (c : Code),
  vc P n (Code.block id c) K f L m =
    vc P n c
      (fun e =>
        match (motive := Exit → Regs → Lst → World → Prop) e with
        | Exit.exit id' => if id' = id then K Exit.normal else K (Exit.exit id')
        | e => K e)
      f L m) ∧
  (∀ (P : Program) (n : Nat) (K : KE) (f : Regs) (L : Lst) (m : World) (c : Code),
  vc P n (Code.loop c) K f L m = vcLoop (dsts c) (vc P n c) K f L m) ∧
  (∀ (P : Program) (n : Nat) (K : KE) (f : Regs) (L : Lst) (m : World) (id : Nat),
  vc P n (Code.exit id) K f L m = K (Exit.exit id) f L m) ∧
  (∀ (P : Program) (n : Nat) (K : KE) (f : Regs) (L : Lst) (m : World), vc P n Code.ret K f L m = K Exit.ret f L m) ∧
  (∀ (P : Program) (n : Nat) (f : Regs) (L : Lst) (m : World) (ops : Array Oper) (Q : K0),
  vcl P n ops Q [] f L m = Q f L m) ∧
  (∀ (P : Program) (n : Nat) (f : Regs) (L : Lst) (m : World) (ops : Array Oper) (Q : K0) (dst : Option Nat)
  (op : Op) (ty : TypeId) (pos : String) (af : Array Edge) (r : List Oper),
  vcl P n ops Q ({ dst := dst, op := op, type := ty, pos := pos, after := af, guard := none } :: r) f L m =
    vcOp P n { dst := dst, op := op, type := ty, pos := pos, after := af, guard := none } (vcl P n ops Q r) f L m) ∧
  (∀ (P : Program) (n : Nat) (f : Regs) (L : Lst) (m : World) (ops : Array Oper) (Q : K0) (dst : Option Nat)
  (op : Op) (ty : TypeId) (pos : String) (af : Array Edge) (j : Nat) (r : List Oper),
  vcl P n ops Q ({ dst := dst, op := op, type := ty, pos := pos, after := af, guard := some (j, true) } :: r) f L m =
    match guardSlot ops j with
    | none => False
    | some g =>
      match f g with
      | SV.c (CV.v (Value.bool b)) =>
        Gd b
          (vcOp P n { dst := dst, op := op, type := ty, pos := pos, after := af, guard := some (j, true) }
            (vcl P n ops Q r))
          (upd f g (SV.c (CV.v (Value.bool true)))) (vcl P n ops Q r)
          (put n (upd f g (SV.c (CV.v (Value.bool false)))) dst (SV.c (CV.v undef))) L m
      | SV.c (CV.v (Value.tuple vs)) => vcl P n ops Q r (put n f dst (SV.c (CV.v undef))) L m
      | x => False) ∧
  (∀ (f : Regs) (d : Nat) (v : SV) (s : Nat), upd f d v s = if s = d then v else f s) ∧
  (∀ (f g : Regs) (ws : List Nat) (s : Nat), mix f ws g s = if inN ws s = true then g s else mixS ws (f s)) ∧
  (∀ (f : Regs) (d s : Nat), killR d f s = killS d (f s)) ∧
  (∀ (f : Regs) (i b : Nat) (c : Option Nat) (s : Nat), pubR i b c f s = pubS i b c (f s)) ∧
  (∀ (f : Regs) (i j s : Nat), renR i j f s = renS i j (f s)) ∧
  (∀ (s : Nat), regs0 [] s = SV.c (CV.v undef)) ∧
  (∀ (v : Value) (vs : List Value), regs0 (v :: vs) 0 = SV.c (CV.v v)) ∧
  (∀ (v : Value) (vs : List Value) (s : Nat), regs0 (v :: vs) (s + 1) = regs0 vs s)) ∧
  ((∀ (P : Program) (f : Regs) (L : Lst) (m : World) (rs : List ResultVar) (R : Value → World → Prop),
  endK P rs R Exit.normal f L m = vcRet P rs R f L m) ∧
  (∀ (P : Program) (f : Regs) (L : Lst) (m : World) (rs : List ResultVar) (R : Value → World → Prop),
  endK P rs R Exit.ret f L m = vcRet P rs R f L m) ∧
  (∀ (P : Program) (n : Nat) (K : KE) (f : Regs) (L : Lst) (m : World) (id : Nat) (ops : Array Oper),
  vc P n (Code.region id ops true) K f L m = vcDrawn P n ops (K Exit.normal) f L m) ∧
  (∀ (P : Program) (n : Nat) (f : Regs) (L : Lst) (m : World) (ops : Array Oper) (Q : K0),
  vcPlan P n ops Q Plan.done f L m = Q f L m) ∧
  (∀ (P : Program) (n : Nat) (f : Regs) (L : Lst) (m : World) (ops : Array Oper) (Q : K0),
  vcPlan P n ops Q Plan.nobr f L m = True) ∧
  (∀ (P : Program) (n : Nat) (f : Regs) (L : Lst) (m : World) (ops : Array Oper) (Q : K0) (i : Nat) (p : Plan),
  vcPlan P n ops Q (Plan.take i p) f L m =
    match (Array.toList ops)[i]? with
    | some o => vcGuard n ops o (vcOp P n o) (vcPlan P n ops Q p) f L m
    | none => False) ∧
  (∀ (P : Program) (n : Nat) (f : Regs) (L : Lst) (m : World) (ops : Array Oper) (Q : K0) (i : Nat) (p q : Plan),
  vcPlan P n ops Q (Plan.br i p q) f L m =
    ((match (Array.toList ops)[i]? with
      | some o => vcGuard n ops o (vcOpS P n o) (vcPlan P n ops Q p) f L m
      | none => False) ∧
      vcPlan P n ops Q q f L m)) ∧
  (∀ (n : Nat) (f : Regs) (L : Lst) (m : World) (ops : Array Oper) (S : K0 → K0) (Q : K0) (dst : Option Nat)
  (op : Op) (ty : TypeId) (pos : String) (af : Array Edge),
  vcGuard n ops { dst := dst, op := op, type := ty, pos := pos, after := af, guard := none } S Q f L m = S Q f L m) ∧
  (∀ (n : Nat) (f : Regs) (L : Lst) (m : World) (ops : Array Oper) (S : K0 → K0) (Q : K0) (dst : Option Nat)
  (op : Op) (ty : TypeId) (pos : String) (af : Array Edge) (j : Nat),
  vcGuard n ops { dst := dst, op := op, type := ty, pos := pos, after := af, guard := some (j, true) } S Q f L m =
    match guardSlot ops j with
    | none => False
    | some g =>
      match f g with
      | SV.c (CV.v (Value.bool b)) =>
        Gd b (S Q) (upd f g (SV.c (CV.v (Value.bool true)))) Q
          (put n (upd f g (SV.c (CV.v (Value.bool false)))) dst (SV.c (CV.v undef))) L m
      | SV.c (CV.v (Value.tuple vs)) => Q (put n f dst (SV.c (CV.v undef))) L m
      | x => False) ∧
  (∀ (ops : Array Oper) (j : Nat), guardSlot ops j = Option.bind (Array.toList ops)[j]? fun x => Oper.dst x) ∧
  (∀ (P : Program) (n : Nat) (f : Regs) (L : Lst) (m : World) (ops : Array Oper) (Q : K0) (dst : Option Nat)
  (op : Op) (ty : TypeId) (pos : String) (af : Array Edge) (j : Nat) (r : List Oper),
  vcl P n ops Q ({ dst := dst, op := op, type := ty, pos := pos, after := af, guard := some (j, false) } :: r) f L m =
    match guardSlot ops j with
    | none => False
    | some g =>
      match f g with
      | SV.c (CV.v (Value.bool b)) =>
        Gd b (vcl P n ops Q r) (put n (upd f g (SV.c (CV.v (Value.bool true)))) dst (SV.c (CV.v undef)))
          (vcOp P n { dst := dst, op := op, type := ty, pos := pos, after := af, guard := some (j, false) }
            (vcl P n ops Q r))
          (upd f g (SV.c (CV.v (Value.bool false)))) L m
      | SV.c (CV.v (Value.tuple vs)) => vcl P n ops Q r (put n f dst (SV.c (CV.v undef))) L m
      | x => False) ∧
  (∀ (n : Nat) (f : Regs) (L : Lst) (m : World) (ops : Array Oper) (S : K0 → K0) (Q : K0) (dst : Option Nat)
  (op : Op) (ty : TypeId) (pos : String) (af : Array Edge) (j : Nat),
  vcGuard n ops { dst := dst, op := op, type := ty, pos := pos, after := af, guard := some (j, false) } S Q f L m =
    match guardSlot ops j with
    | none => False
    | some g =>
      match f g with
      | SV.c (CV.v (Value.bool b)) =>
        Gd b Q (put n (upd f g (SV.c (CV.v (Value.bool true)))) dst (SV.c (CV.v undef))) (S Q)
          (upd f g (SV.c (CV.v (Value.bool false)))) L m
      | SV.c (CV.v (Value.tuple vs)) => Q (put n f dst (SV.c (CV.v undef))) L m
      | x => False) ∧
  (∀ (L : Lst) (m : World) (KA : K0) (fA : Regs) (KB : K0) (fB : Regs), Gd true KA fA KB fB L m = KA fA L m) ∧
  (∀ (L : Lst) (m : World) (KA : K0) (fA : Regs) (KB : K0) (fB : Regs), Gd false KA fA KB fB L m = KB fB L m) ∧
  (∀ (P : Program) (n : Nat) (f : Regs) (L : Lst) (m : World) (ops : Array Oper) (Q : K0) (lt : List Nat),
  vcPlanL P n ops Q lt PlanL.done f L m = Q f L m) ∧
  (∀ (P : Program) (n : Nat) (f : Regs) (L : Lst) (m : World) (ops : Array Oper) (Q : K0) (lt : List Nat),
  vcPlanL P n ops Q lt PlanL.nobr f L m = True) ∧
  (∀ (P : Program) (n : Nat) (f : Regs) (L : Lst) (m : World) (ops : Array Oper) (Q : K0) (lt : List Nat) (i : Nat)
  (p : PlanL),
  vcPlanL P n ops Q lt (PlanL.take i p) f L m =
    match (Array.toList ops)[i]? with
    | some o => vcGuard n ops o (vcOp P n o) (vcPlanL P n ops Q lt p) f L m
    | none => False) ∧
  (∀ (P : Program) (n : Nat) (f : Regs) (L : Lst) (m : World) (ops : Array Oper) (Q : K0) (lt : List Nat) (i : Nat)
  (p q : PlanL),
  vcPlanL P n ops Q lt (PlanL.br i p q) f L m =
    (deads ops lt f ∧
      (match (Array.toList ops)[i]? with
        | some o => vcGuard n ops o (vcOpS P n o) (vcPlanL P n ops Q lt p) f L m
        | none => False) ∧
        vcPlanL P n ops Q lt q f L m)) ∧
  (∀ (P : Program) (n : Nat) (f : Regs) (L : Lst) (m : World) (ops : Array Oper) (Q : K0) (lt : List Nat) (i : Nat)
  (p q : PlanL),
  vcPlanL P n ops Q lt (PlanL.brF i p q) f L m =
    (deads ops lt f ∧
      (match (Array.toList ops)[i]? with
        | some o => cap0 o f L ∧ vcGuard n ops o (vcOpS P n o) (vcPlanL P n ops Q lt p) f L m
        | none => False) ∧
        vcPlanL P n ops Q lt q f L m)) ∧
  (∀ (P : Program) (n : Nat) (f : Regs) (L : Lst) (m : World) (ops : Array Oper) (Q : K0) (lt : List Nat) (i : Nat)
  (p : PlanL),
  vcPlanL P n ops Q lt (PlanL.late i p) f L m =
    match (Array.toList ops)[i]?, guardSlot ops i with
    | some o, some d =>
      vcOp P n o (fun x x_1 x_2 => True) f L m ∧ vcPlanL P n ops Q (i :: lt) p (upd f d (SV.c CV.dead)) L m
    | x, x_1 => False)) ∧
  ((∀ (P : Program) (n : Nat) (f : Regs) (L : Lst) (m : World) (ops : Array Oper) (Q : K0) (lt : List Nat) (i : Nat)
  (p : PlanL),
  vcPlanL P n ops Q lt (PlanL.mk i p) f L m =
    (deads ops lt f ∧
      match (Array.toList ops)[i]? with
      | some o => vcOp P n o (vcPlanL P n ops Q (remN i lt) p) f L m
      | none => False)) ∧
  (∀ (P : Program) (n : Nat) (f : Regs) (L : Lst) (m : World) (ops : Array Oper) (Q : K0) (lt : List Nat) (i : Nat)
  (p q : PlanL),
  vcPlanL P n ops Q lt (PlanL.brX i p q) f L m =
    (deads ops lt f ∧
      (match (Array.toList ops)[i]? with
        | some o => vcGuard n ops o (vcOp P n o) (vcPlanL P n ops Q lt p) f L m
        | none => False) ∧
        vcPlanL P n ops Q lt q f L m)) ∧
  (∀ {P : Program} {n : Nat} {d : Option Nat} {K : K0} {f : Regs} {L : Lst} {m : World} {k : IntKind}
  {t : TypeId} {x y : Operand} {a b : Int},
  vcPure P n d
      (do
        eqGuard BinOp.add t x y (Value.int k a) (Value.int k b)
        binOp BinOp.add t (Value.int k a) (Value.int k b))
      K f L m =
    K (put n f d (SV.c (CV.v (Value.int k (IntKind.wrap k (a + b)))))) L m) ∧
  (∀ {P : Program} {n : Nat} {d : Option Nat} {K : K0} {f : Regs} {L : Lst} {m : World} {k : IntKind}
  {t : TypeId} {x y : Operand} {a b : Int},
  vcPure P n d
      (do
        eqGuard BinOp.sub t x y (Value.int k a) (Value.int k b)
        binOp BinOp.sub t (Value.int k a) (Value.int k b))
      K f L m =
    K (put n f d (SV.c (CV.v (Value.int k (IntKind.wrap k (a - b)))))) L m) ∧
  (∀ {P : Program} {n : Nat} {d : Option Nat} {K : K0} {f : Regs} {L : Lst} {m : World} {k : IntKind}
  {t : TypeId} {x y : Operand} {a b : Int},
  vcPure P n d
      (do
        eqGuard BinOp.mul t x y (Value.int k a) (Value.int k b)
        binOp BinOp.mul t (Value.int k a) (Value.int k b))
      K f L m =
    K (put n f d (SV.c (CV.v (Value.int k (IntKind.wrap k (a * b)))))) L m) ∧
  (∀ {P : Program} {n : Nat} {d : Option Nat} {K : K0} {f : Regs} {L : Lst} {m : World} {k : IntKind}
  {t : TypeId} {x y : Operand} {a b : Int},
  vcPure P n d
      (do
        eqGuard BinOp.lss t x y (Value.int k a) (Value.int k b)
        binOp BinOp.lss t (Value.int k a) (Value.int k b))
      K f L m =
    K (put n f d (SV.c (CV.v (Value.bool (decide (a < b)))))) L m) ∧
  (∀ {P : Program} {n : Nat} {d : Option Nat} {K : K0} {f : Regs} {L : Lst} {m : World} {k : IntKind}
  {t : TypeId} {x y : Operand} {a b : Int},
  vcPure P n d
      (do
        eqGuard BinOp.leq t x y (Value.int k a) (Value.int k b)
        binOp BinOp.leq t (Value.int k a) (Value.int k b))
      K f L m =
    K (put n f d (SV.c (CV.v (Value.bool (decide (a ≤ b)))))) L m) ∧
  (∀ {P : Program} {n : Nat} {d : Option Nat} {K : K0} {f : Regs} {L : Lst} {m : World} {k : IntKind}
  {t : TypeId} {x y : Operand} {a b : Int},
  vcPure P n d
      (do
        eqGuard BinOp.gtr t x y (Value.int k a) (Value.int k b)
        binOp BinOp.gtr t (Value.int k a) (Value.int k b))
      K f L m =
    K (put n f d (SV.c (CV.v (Value.bool (decide (b < a)))))) L m) ∧
  (∀ {P : Program} {n : Nat} {d : Option Nat} {K : K0} {f : Regs} {L : Lst} {m : World} {k : IntKind}
  {t : TypeId} {x y : Operand} {a b : Int},
  vcPure P n d
      (do
        eqGuard BinOp.geq t x y (Value.int k a) (Value.int k b)
        binOp BinOp.geq t (Value.int k a) (Value.int k b))
      K f L m =
    K (put n f d (SV.c (CV.v (Value.bool (decide (b ≤ a)))))) L m) ∧
  (∀ {P : Program} {n : Nat} {d : Option Nat} {K : K0} {f : Regs} {L : Lst} {m : World} {k : IntKind}
  {t : TypeId} {x y : Operand} {a b : Int},
  vcPure P n d
      (do
        eqGuard BinOp.eql t x y (Value.int k a) (Value.int k b)
        binOp BinOp.eql t (Value.int k a) (Value.int k b))
      K f L m =
    K (put n f d (SV.c (CV.v (Value.bool (decide (a = b)))))) L m) ∧
  (∀ {P : Program} {n : Nat} {d : Option Nat} {K : K0} {f : Regs} {L : Lst} {m : World} {k : IntKind}
  {t : TypeId} {x y : Operand} {a b : Int},
  vcPure P n d
      (do
        eqGuard BinOp.neq t x y (Value.int k a) (Value.int k b)
        binOp BinOp.neq t (Value.int k a) (Value.int k b))
      K f L m =
    K (put n f d (SV.c (CV.v (Value.bool !decide (a = b))))) L m) ∧
  (∀ {P : Program} {n : Nat} {d : Option Nat} {K : K0} {f : Regs} {L : Lst} {m : World} {t : TypeId}
  {x y : Operand} {a b : ByteArray},
  vcPure P n d
      (do
        eqGuard BinOp.eql t x y (Value.string a) (Value.string b)
        binOp BinOp.eql t (Value.string a) (Value.string b))
      K f L m =
    K (put n f d (SV.c (CV.v (Value.bool (decide (a = b)))))) L m) ∧
  (∀ {P : Program} {n : Nat} {d : Option Nat} {K : K0} {f : Regs} {L : Lst} {m : World} {t : TypeId}
  {x y : Operand} {a b : ByteArray},
  vcPure P n d
      (do
        eqGuard BinOp.neq t x y (Value.string a) (Value.string b)
        binOp BinOp.neq t (Value.string a) (Value.string b))
      K f L m =
    K (put n f d (SV.c (CV.v (Value.bool !decide (a = b))))) L m) ∧
  (∀ {P : Program} {n : Nat} {d : Option Nat} {K : K0} {f : Regs} {L : Lst} {m : World} {a : Bool},
  vcPure P n d (Op.unary UnOp.not (Value.bool a)) K f L m = K (put n f d (SV.c (CV.v (Value.bool !a)))) L m) ∧
  (∀ {P : Program} {n : Nat} {d : Option Nat} {K : K0} {f : Regs} {L : Lst} {m : World} {k : IntKind}
  {a : Int},
  vcPure P n d (Op.unary UnOp.neg (Value.int k a)) K f L m =
    K (put n f d (SV.c (CV.v (Value.int k (IntKind.wrap k (-a)))))) L m) ∧
  (∀ (P : Program) (n : Nat) (o : Oper) (K : K0) (f : Regs) (L : Lst) (m : World),
  vcOp P n o K f L m =
    match Oper.op o with
    | Op.move x => K (put n f (Oper.dst o) (ev f x)) L m
    | Op.assign x => K (put n f (Oper.dst o) (ev f x)) L m
    | Op.pick c a b =>
      match ev f c with
      | SV.c (CV.v (Value.bool t)) => Gd t K (put n f (Oper.dst o) (ev f a)) K (put n f (Oper.dst o) (ev f b)) L m
      | x => False
    | Op.alloc t =>
      match zeroC P t with
      | some z => create n (Oper.dst o) (Box.str t (List.map CV.v z)) (fun d => CV.bp d 0) K f L m
      | none => False
    | Op.box t x =>
      match cellsOf? (ev f x) with
      | some cs => create n (Oper.dst o) (Box.str t cs) (fun d => CV.bp d 0) K f L m
      | none => False
    | Op.build t parts =>
      match zeroC P t, placesS P t with
      | some z, some pl =>
        match fillC pl (List.map CV.v z) (List.map (fun p => (Prod.fst p, ev f (Prod.snd p))) (Array.toList parts)) with
        | some cs => K (put n f (Oper.dst o) (mkAg cs)) L m
        | none => False
      | x, x_1 => False
    | Op.buildSlice T len parts =>
      match elemS P T with
      | some (e, sz, snd) =>
        match zerosOf P e sz len with
        | some zs =>
          match
            fillC (List.map (fun i => (i * sz, sz)) (List.range len)) (List.map CV.v zs)
              (List.map (fun p => (Prod.fst p, ev f (Prod.snd p))) (Array.toList parts)) with
          | some cs =>
            match valsOf? cs with
            | some vs =>
              0 < sz ∧ len * sz ≤ 16777216 ∧ create n (Oper.dst o) (Box.arr e vs len) (fun d => CV.bs d len) K f L m
            | none => False
          | none => False
        | none => False
      | none => False
    | Op.load t x => vcLoad P n (Oper.dst o) t (ev f x) K f L m
    | Op.store t x y => vcStore P n (Oper.dst o) t (ev f x) (ev f y) K f L m
    | Op.fieldAddr T x k =>
      match ev f x with
      | SV.c (CV.bp i off) =>
        match fieldOff P T k with
        | some q => K (put n f (Oper.dst o) (SV.c (CV.bp i (off + q)))) L m
        | none => False
      | SV.c (CV.v a) => vcPure P n (Oper.dst o) (Instr.fieldAt T a k) K f L m
      | x => False
    | Op.indexAddr T x i =>
      match ev f i, elemS P T with
      | SV.c (CV.v (Value.int k k_1)), some (fst, sz, snd) =>
        match ev f x with
        | SV.c (CV.bs j ln) => 0 ≤ k_1 ∧ k_1 < ↑ln ∧ K (put n f (Oper.dst o) (SV.c (CV.bp j (Int.toNat k_1 * sz)))) L m
        | SV.c (CV.v (Value.slice a ln cap)) =>
          0 ≤ k_1 ∧
            k_1 < ↑ln ∧
              ∃ ad,
                a = some ad ∧
                  K (put n f (Oper.dst o) (SV.c (CV.v (Value.pointer (some (Addr.add ad (Int.toNat k_1 * sz))))))) L m
        | x => False
      | x, x_1 => False
    | Op.makeSlice T l c =>
      match ev f l, ev f c, elemS P T with
      | SV.c (CV.v (Value.int IntKind.i64 a)), SV.c (CV.v (Value.int IntKind.i64 b)), some (e, sz, bytes) =>
        0 ≤ a ∧
          a = b ∧
            0 < sz ∧
              b * ↑bytes ≤ 140737488355328 ∧
                b ≤ 9223372036854775807 ∧
                  match zerosOf P e sz (Int.toNat a) with
                  | some zs =>
                    create n (Oper.dst o) (Box.arr e zs (Int.toNat b)) (fun d => CV.bs d (Int.toNat a)) K f L m
                  | none => False
      | x, x_1, x_2 => False
    | Op.call c =>
      match Call.callee c with
      | Callee.value g => vcCall P n (Oper.dst o) (ev f g) (List.map (ev f) (Array.toList (Call.args c))) K f L m
      | Callee.builtin Builtin.len =>
        match List.map (ev f) (Array.toList (Call.args c)), Array.toList (Call.argTypes c) with
        | [x], [T] =>
          match x with
          | SV.c (CV.bs i ln) => lenK P T = 1 ∧ K (put n f (Oper.dst o) (SV.c (CV.v (Value.int IntKind.i64 ↑ln)))) L m
          | SV.c (CV.v (Value.slice a ln cap)) =>
            lenK P T = 1 ∧ K (put n f (Oper.dst o) (SV.c (CV.v (Value.int IntKind.i64 ↑ln)))) L m
          | SV.c (CV.v (Value.string s)) =>
            lenK P T = 2 ∧ K (put n f (Oper.dst o) (SV.c (CV.v (Value.int IntKind.i64 ↑(ByteArray.size s))))) L m
          | x => False
        | x, x_1 => False
      | Callee.builtin Builtin.append =>
        match List.map (ev f) (Array.toList (Call.args c)), Array.toList (Call.argTypes c) with
        | [s, t], [T, U] => T = U ∧ zeroOk P T = true ∧ vcAppend P n (Oper.dst o) T s t K f L m
        | x, x_1 => False
      | x => False
    | Op.binOp op t x y yType =>
      match ev f x, ev f y with
      | SV.c (CV.v a), SV.c (CV.v b) =>
        vcPure P n (Oper.dst o)
          (do
            eqGuard op t x y a b
            binOp op t a b)
          K f L m
      | x, x_1 => False
    | Op.unOp op xType x =>
      match ev f x with
      | SV.c (CV.v a) => vcPure P n (Oper.dst o) (Op.unary op a) K f L m
      | x => False
    | Op.nilCheck x =>
      match ev f x with
      | SV.c (CV.v (Value.pointer (some ad))) => K (put n f (Oper.dst o) (SV.c (CV.v (Value.pointer (some ad))))) L m
      | SV.c (CV.bp i off) => K (put n f (Oper.dst o) (SV.c (CV.bp i off))) L m
      | SV.c (CV.v (Value.func (Fn.func g) first captured)) =>
        K (put n f (Oper.dst o) (SV.c (CV.v (Value.func (Fn.func g) first captured)))) L m
      | x => False
    | Op.convert s t x =>
      match ev f x with
      | SV.c (CV.v (Value.slice (some ad) ln cap)) =>
        convBS P s t = true ∧
          ∃ bs,
            List.length bs = ln ∧
              (∀ (j : Nat) (b : UInt8),
                  bs[j]? = some b → World.cell? m (Addr.add ad j) = some (Value.int IntKind.u8 ↑(UInt8.toNat b))) ∧
                K (put n f (Oper.dst o) (SV.c (CV.v (Value.string { data := List.toArray bs })))) L m
      | SV.c (CV.bs i ln) =>
        convBS P s t = true ∧
          match look L i with
          | some (Box.arr ty vs cap) =>
            ∃ bs,
              List.length bs = ln ∧
                (∀ (j : Nat) (b : UInt8), bs[j]? = some b → vs[j]? = some (Value.int IntKind.u8 ↑(UInt8.toNat b))) ∧
                  K (put n f (Oper.dst o) (SV.c (CV.v (Value.string { data := List.toArray bs })))) L m
          | x => False
      | SV.c (CV.v a) => vcPure P n (Oper.dst o) (convert s t a) K f L m
      | x => False
    | Op.extract x i =>
      match ev f x with
      | SV.c (CV.v a) => vcPure P n (Oper.dst o) (Instr.extract a i) K f L m
      | x => False
    | Op.index T x i =>
      match ev f x, ev f i with
      | SV.c (CV.v a), SV.c (CV.v b) => vcPure P n (Oper.dst o) (Instr.index T a b) K f L m
      | x, x_1 => False
    | x => False) ∧
  (∀ (P : Program) (n : Nat) (d : Option Nat) (t : TypeId) (K : K0) (f : Regs) (L : Lst) (m : World)
  (i off : Nat),
  vcLoad P n d t (SV.c (CV.bp i off)) K f L m =
    match look L i with
    | some (Box.str ty cs) =>
      match tyS P t with
      | TS.one =>
        match cs[off]? with
        | some c => K (put n f d (SV.c c)) L m
        | none => False
      | TS.agg k =>
        if off + k ≤ List.length cs then K (put n f d (mkAg (List.take k (List.drop off cs)))) L m else False
      | TS.bad => False
    | some (Box.arr ty vs cap) =>
      match tyS P t with
      | TS.one => ∃ v, vs[off]? = some v ∧ K (put n f d (SV.c (CV.v v))) L m
      | TS.agg k =>
        off + k ≤ List.length vs ∧
          K (put n f d (SV.c (CV.v (Value.agg (List.toArray (List.take k (List.drop off vs))))))) L m
      | TS.bad => False
    | none => False) ∧
  (∀ (P : Program) (n : Nat) (d : Option Nat) (t : TypeId) (K : K0) (f : Regs) (L : Lst) (m : World)
  (ad : Addr), vcLoad P n d t (SV.c (CV.v (Value.pointer (some ad)))) K f L m = LoadM P t ad n d K f L m) ∧
  (∀ (P : Program) (n : Nat) (d : Option Nat) (t : TypeId) (x : SV) (K : K0) (f : Regs) (L : Lst)
  (m : World),
  (∀ (i off : Nat), x = SV.c (CV.bp i off) → False) →
    (∀ (ad : Addr), x = SV.c (CV.v (Value.pointer (some ad))) → False) → vcLoad P n d t x K f L m = False) ∧
  (∀ (P : Program) (n : Nat) (d : Option Nat) (t : TypeId) (x y : SV) (K : K0) (f : Regs) (L : Lst)
  (m : World),
  vcStore P n d t x y K f L m =
    match cellsOf? y with
    | some ys =>
      match x with
      | SV.c (CV.bp i off) =>
        match look L i with
        | some (Box.str ty cs) =>
          if
              List.all ys goodC = true ∧
                List.length ys = sizeTS (tyS P t) ∧ tyS P t ≠ TS.bad ∧ off + List.length ys ≤ List.length cs then
            K (put n f d (SV.c (CV.v undef))) (setL L i (Box.str ty (splice cs off ys))) m
          else False
        | some (Box.arr ty vs cap) =>
          match valsOf? ys with
          | some yv =>
            List.length yv = sizeTS (tyS P t) ∧
              tyS P t ≠ TS.bad ∧
                off + List.length yv ≤ List.length vs ∧
                  (∀ (v : Value), v ∈ yv → oneCell v = true) ∧
                    K (put n f d (SV.c (CV.v undef))) (setL L i (Box.arr ty (splice vs off yv) cap)) m
          | none => False
        | none => False
      | SV.c (CV.v (Value.pointer (some ad))) =>
        match valsOf? ys with
        | some yv =>
          List.length yv = sizeTS (tyS P t) ∧
            tyS P t ≠ TS.bad ∧
              Addr.spot ad = none ∧
                (∀ (v : Value), v ∈ yv → oneCell v = true) ∧
                  (∀ (j : Nat),
                      j < List.length yv →
                        Option.isSome (World.cell? m (Addr.add ad j)) = true ∧
                          World.frozen? m (Addr.add ad j) = false) ∧
                    K (put n f d (SV.c (CV.v undef))) L (setCells m ad yv)
        | none => False
      | x => False
    | none => False)) ∧
  ((∀ (P : Program) (n : Nat) (d : Option Nat) (args : List SV) (K : K0) (f : Regs) (L : Lst) (m : World)
  (g : FuncId) (first captured : Array Value),
  vcCall P n d (SV.c (CV.v (Value.func (Fn.func g) first captured))) args K f L m =
    vcOut 12 args (fun vs f L m => CallK P g (first ++ List.toArray vs ++ captured) n d K f L m) f L m) ∧
  (∀ (P : Program) (n : Nat) (d : Option Nat) (fn : SV) (args : List SV) (K : K0) (f : Regs) (L : Lst)
  (m : World),
  (∀ (g : FuncId) (first captured : Array Value), fn = SV.c (CV.v (Value.func (Fn.func g) first captured)) → False) →
    vcCall P n d fn args K f L m = False) ∧
  (∀ (P : Program) (n : Nat) (d : Option Nat) (args : List SV) (K : K0) (f : Regs) (L : Lst) (m : World)
  (g : FuncId) (first captured : Array Value),
  vcCallS P n d (SV.c (CV.v (Value.func (Fn.func g) first captured))) args K f L m =
    vcOut 12 args (fun vs f L m => CallKS P g (first ++ List.toArray vs ++ captured) n d K f L m) f L m) ∧
  (∀ (P : Program) (n : Nat) (d : Option Nat) (fn : SV) (args : List SV) (K : K0) (f : Regs) (L : Lst)
  (m : World),
  (∀ (g : FuncId) (first captured : Array Value), fn = SV.c (CV.v (Value.func (Fn.func g) first captured)) → False) →
    vcCallS P n d fn args K f L m = False) ∧
  (∀ (P : Program) (n : Nat) (o : Oper) (K : K0) (f : Regs) (L : Lst) (m : World),
  vcOpS P n o K f L m =
    match Oper.op o with
    | Op.call c =>
      match Call.callee c with
      | Callee.value g => vcCallS P n (Oper.dst o) (ev f g) (List.map (ev f) (Array.toList (Call.args c))) K f L m
      | x => vcOp P n o K f L m
    | x => vcOp P n o K f L m) ∧
  (∀ (P : Program) (n : Nat) (d : Option Nat) (T : TypeId) (s t : SV) (K : K0) (f : Regs) (L : Lst)
  (m : World),
  vcAppend P n d T s t K f L m =
    match elemS P T with
    | none => False
    | some (e, sz, bytes) =>
      newsOf sz t L m fun q news =>
        (∀ (v : Value), v ∈ news → oneCell v = true) ∧
          0 < sz ∧
            match s with
            | SV.c (CV.bs i ln) =>
              match look L i with
              | some (Box.arr ty vs cap) =>
                ty = e ∧
                  ln * sz ≤ List.length vs ∧
                    ln + q ≤ maxLen ∧
                      (ln + q) * bytes ≤ 140737488355328 ∧
                        ∀ (cap' : Nat),
                          ln + q ≤ cap' →
                            cap' ≤ maxLen →
                              create n d (Box.arr ty (List.take (ln * sz) vs ++ news) cap') (fun d => CV.bs d (ln + q))
                                K f (rem L i) m
              | x => False
            | SV.c (CV.v (Value.slice none 0 0)) =>
              q ≤ maxLen ∧
                q * bytes ≤ 140737488355328 ∧
                  (q = 0 → K (put n f d (SV.c (CV.v (Value.slice none 0 0)))) L m) ∧
                    (0 < q →
                      ∀ (cap' : Nat),
                        q ≤ cap' → cap' ≤ maxLen → create n d (Box.arr e news cap') (fun d => CV.bs d q) K f L m)
            | x => False) ∧
  (∀ (sz : Nat) (L : Lst) (m : World) (k : Nat → List Value → Prop) (j ln : Nat),
  newsOf sz (SV.c (CV.bs j ln)) L m k =
    match look L j with
    | some (Box.arr ty vs cap) => ln * sz ≤ List.length vs ∧ k ln (List.take (ln * sz) vs)
    | x => False) ∧
  (∀ (sz : Nat) (L : Lst) (m : World) (k : Nat → List Value → Prop),
  newsOf sz (SV.c (CV.v (Value.slice none 0 0))) L m k = k 0 []) ∧
  (∀ (sz : Nat) (L : Lst) (m : World) (k : Nat → List Value → Prop) (ad : Addr) (ln cap : Nat),
  newsOf sz (SV.c (CV.v (Value.slice (some ad) ln cap))) L m k =
    ∃ news,
      List.length news = ln * sz ∧
        (∀ (i : Nat) (v : Value), news[i]? = some v → World.cell? m (Addr.add ad i) = some v) ∧ k ln news) ∧
  (∀ (sz : Nat) (t : SV) (L : Lst) (m : World) (k : Nat → List Value → Prop),
  (∀ (j ln : Nat), t = SV.c (CV.bs j ln) → False) →
    (t = SV.c (CV.v (Value.slice none 0 0)) → False) →
      (∀ (ad : Addr) (ln cap : Nat), t = SV.c (CV.v (Value.slice (some ad) ln cap)) → False) → newsOf sz t L m k = False) ∧
  (∀ (n : Nat) (bx : Box) (mk : Nat → CV) (K : K0) (f : Regs) (L : Lst) (m : World) (c : Nat),
  create n (some c) bx mk K f L m =
    if c < n then K (upd (killR c f) c (SV.c (mk c))) ((c, killB c bx) :: rem (killL c L) c) m else False) ∧
  (∀ (n : Nat) (bx : Box) (mk : Nat → CV) (K : K0) (f : Regs) (L : Lst) (m : World),
  create n none bx mk K f L m = False) ∧
  (∀ (n : Nat) (f : Regs) (v : SV) (d_2 : Nat), put n f (some d_2) v = if d_2 < n then upd f d_2 v else f) ∧
  (∀ (n : Nat) (f : Regs) (v : SV), put n f none v = f) ∧
  (∀ (f : Regs) (t : Tmp), ev f (Operand.tmp t) = f t) ∧
  (∀ (f : Regs) (v : Value), ev f (Operand.const v) = SV.c (CV.v v)) ∧
  (∀ (f : Regs) (g : Nat), ev f (Operand.global g) = SV.c (CV.v (Value.pointer (some { block := g, off := 0 })))) ∧
  (∀ (f : Regs) (g : FuncId), ev f (Operand.func g) = SV.c (CV.v (Value.func (Fn.func g) #[] #[]))) ∧
  (∀ (d j o : Nat), killC d (CV.bp j o) = if j = d then CV.dead else CV.bp j o) ∧
  (∀ (d j n : Nat), killC d (CV.bs j n) = if j = d then CV.dead else CV.bs j n)) ∧
  ((∀ (d : Nat) (x : CV),
  (∀ (j o : Nat), x = CV.bp j o → False) → (∀ (j n : Nat), x = CV.bs j n → False) → killC d x = x) ∧
  (∀ (d : Nat) (x_1 : CV), killS d (SV.c x_1) = SV.c (killC d x_1)) ∧
  (∀ (d : Nat) (cs : List CV), killS d (SV.ag cs) = SV.ag (List.map (killC d) cs)) ∧
  (∀ (d : Nat) (t : TypeId) (cs : List CV), killB d (Box.str t cs) = Box.str t (List.map (killC d) cs)) ∧
  (∀ (d : Nat) (t : TypeId) (vs : List Value) (cap : Nat), killB d (Box.arr t vs cap) = Box.arr t vs cap) ∧
  (∀ (d : Nat), killL d [] = []) ∧
  (∀ (d j : Nat) (b : Box) (r : List (Nat × Box)), killL d ((j, b) :: r) = (j, killB d b) :: killL d r) ∧
  (∀ (i b : Nat) (cap : Option Nat) (i_1 off : Nat),
  pubC i b cap (CV.bp i_1 off) =
    if i_1 = i then CV.v (Value.pointer (some { block := b, off := off })) else CV.bp i_1 off) ∧
  (∀ (i b i_1 len c : Nat),
  pubC i b (some c) (CV.bs i_1 len) =
    if i_1 = i then CV.v (Value.slice (some { block := b, off := 0 }) len c) else CV.bs i_1 len) ∧
  (∀ (i b i_1 len : Nat), pubC i b none (CV.bs i_1 len) = if i_1 = i then CV.dead else CV.bs i_1 len) ∧
  (∀ (i b : Nat) (cap : Option Nat) (x : CV),
  (∀ (i off : Nat), x = CV.bp i off → False) → (∀ (i len : Nat), x = CV.bs i len → False) → pubC i b cap x = x) ∧
  (∀ (i b : Nat) (cap : Option Nat) (x_1 : CV), pubS i b cap (SV.c x_1) = SV.c (pubC i b cap x_1)) ∧
  (∀ (i b : Nat) (cap : Option Nat) (cs : List CV),
  pubS i b cap (SV.ag cs) = SV.ag (List.map (pubC i b cap) cs)) ∧
  (∀ (i b : Nat) (cap : Option Nat) (t : TypeId) (cs : List CV),
  pubB i b cap (Box.str t cs) = Box.str t (List.map (pubC i b cap) cs)) ∧
  (∀ (i b : Nat) (cap : Option Nat) (t : TypeId) (vs : List Value) (c : Nat),
  pubB i b cap (Box.arr t vs c) = Box.arr t vs c) ∧
  (∀ (i b : Nat) (cap : Option Nat), pubL i b cap [] = []) ∧
  (∀ (i b : Nat) (cap : Option Nat) (j : Nat) (x_1 : Box) (r : List (Nat × Box)),
  pubL i b cap ((j, x_1) :: r) = (j, pubB i b cap x_1) :: pubL i b cap r) ∧
  (∀ (i off : Nat), refsC (CV.bp i off) = [i]) ∧
  (∀ (i len : Nat), refsC (CV.bs i len) = [i]) ∧
  (∀ (x : CV),
  (∀ (i off : Nat), x = CV.bp i off → False) → (∀ (i len : Nat), x = CV.bs i len → False) → refsC x = [])) ∧
  ((∀ (x_1 : CV), refsS (SV.c x_1) = refsC x_1) ∧
  (∀ (cs : List CV), refsS (SV.ag cs) = List.flatMap refsC cs) ∧
  (valsOf? [] = some []) ∧
  (∀ (x_1 : Value) (r : List CV),
  valsOf? (CV.v x_1 :: r) =
    match valsOf? r with
    | some vs => some (x_1 :: vs)
    | none => none) ∧
  (∀ (head : CV) (tail : List CV), (∀ (x : Value), head = CV.v x → False) → valsOf? (head :: tail) = none) ∧
  (∀ (x : Nat), look [] x = none) ∧
  (∀ (x j : Nat) (b : Box) (r : List (Nat × Box)), look ((j, b) :: r) x = if j = x then some b else look r x) ∧
  (∀ (x : Nat), rem [] x = []) ∧
  (∀ (x j : Nat) (b : Box) (r : List (Nat × Box)),
  rem ((j, b) :: r) x = if j = x then rem r x else (j, b) :: rem r x) ∧
  (∀ (L : Lst) (i : Nat) (b : Box), setL L i b = (i, b) :: rem L i) ∧
  (∀ (a : Array Value), cellsOf? (SV.c (CV.v (Value.agg a))) = some (List.map CV.v (Array.toList a))) ∧
  (∀ (vs : Array Value), cellsOf? (SV.c (CV.v (Value.tuple vs))) = none) ∧
  (cellsOf? (SV.c CV.dead) = none) ∧
  (∀ (x_1 : CV),
  (∀ (a : Array Value), x_1 = CV.v (Value.agg a) → False) →
    (∀ (vs : Array Value), x_1 = CV.v (Value.tuple vs) → False) →
      (x_1 = CV.dead → False) → cellsOf? (SV.c x_1) = some [x_1]) ∧
  (∀ (cs : List CV), cellsOf? (SV.ag cs) = some cs) ∧
  (∀ (cs : List CV),
  mkAg cs =
    match valsOf? cs with
    | some vs => SV.c (CV.v (Value.agg (List.toArray vs)))
    | none => SV.ag cs) ∧
  (∀ (x_1 : Value), toV? (SV.c (CV.v x_1)) = some x_1) ∧
  (∀ (cs : List CV),
  toV? (SV.ag cs) =
    match valsOf? cs with
    | some vs => some (Value.agg (List.toArray vs))
    | none => none) ∧
  (∀ (x : SV),
  (∀ (x_1 : Value), x = SV.c (CV.v x_1) → False) → (∀ (cs : List CV), x = SV.ag cs → False) → toV? x = none) ∧
  (toVs [] = some [])) ∧
  ((∀ (x_1 : SV) (r : List SV),
  toVs (x_1 :: r) =
    match toV? x_1 with
    | some v =>
      match toVs r with
      | some vs => some (v :: vs)
      | none => none
    | none => none) ∧
  (∀ {α : Type} (cs : List α) (off : Nat) (ys : List α),
  splice cs off ys = List.take off cs ++ (ys ++ List.drop (off + List.length ys) cs)) ∧
  (∀ (places : List (Nat × Nat)) (cs : List CV), fillC places cs [] = some cs) ∧
  (∀ (places : List (Nat × Nat)) (cs : List CV) (i : Nat) (s : SV) (r : List (Nat × SV)),
  fillC places cs ((i, s) :: r) =
    match places[i]?, cellsOf? s with
    | some (off, size), some ys =>
      if List.length ys = size ∧ off + size ≤ List.length cs then fillC places (splice cs off ys) r else none
    | x, x_1 => none) ∧
  (∀ (i : Nat) (k : Nat → Option Nat → K0) (f : Regs) (L : Lst) (m : World),
  vcPub i k f L m =
    match look L i with
    | some bx =>
      match valsOf? (Box.cells bx) with
      | some vs =>
        ∀ (b : Nat) (m' : World),
          Pub m m' b (Box.ty bx) vs → k b (Box.cap bx) (pubR i b (Box.cap bx) f) (rem (pubL i b (Box.cap bx) L) i) m'
      | none => False
    | none => False) ∧
  (∀ (x : List SV) (x_1 : List Value → K0), vcOut 0 x x_1 = fun x x_2 x_3 => False) ∧
  (∀ (x : List SV) (x_1 : List Value → K0) (n : Nat),
  vcOut (Nat.succ n) x x_1 = fun f L m =>
    match toVs x with
    | some vs => x_1 vs f L m
    | none =>
      match List.flatMap refsS x with
      | [] => False
      | i :: tail => vcPub i (fun b c => vcOut n (List.map (pubS i b c) x) x_1) f L m) ∧
  (∀ (cells : Array Value), oneCell (Value.agg cells) = false) ∧
  (∀ (vs : Array Value), oneCell (Value.tuple vs) = false) ∧
  (∀ (x : Value),
  (∀ (cells : Array Value), x = Value.agg cells → False) →
    (∀ (vs : Array Value), x = Value.tuple vs → False) → oneCell x = true) ∧
  (∀ (y : Value), goodC (CV.v y) = oneCell y) ∧
  (goodC CV.dead = false) ∧
  (∀ (x : CV), (∀ (y : Value), x = CV.v y → False) → (x = CV.dead → False) → goodC x = true) ∧
  (sizeTS TS.one = 1) ∧
  (∀ (c : Nat), sizeTS (TS.agg c) = c) ∧
  (sizeTS TS.bad = 0) ∧
  (∀ (id : Nat) (ops : Array Oper) (draw : Bool), dsts (Code.region id ops draw) = dstsOps (Array.toList ops)) ∧
  (∀ (a b : Code), dsts (Code.seq a b) = dsts a ++ dsts b) ∧
  (∀ (c : Operand) (a b : Code), dsts (Code.cond c a b) = dsts a ++ dsts b) ∧
  (∀ (id : Nat) (c : Code), dsts (Code.block id c) = dsts c)) ∧
  ((∀ (c : Code), dsts (Code.loop c) = dsts c) ∧
  (∀ (c : Code), dsts (Code.scope c) = dsts c) ∧
  (∀ (x : Code),
  (∀ (id : Nat) (ops : Array Oper) (draw : Bool), x = Code.region id ops draw → False) →
    (∀ (a b : Code), x = Code.seq a b → False) →
      (∀ (c : Operand) (a b : Code), x = Code.cond c a b → False) →
        (∀ (id : Nat) (c : Code), x = Code.block id c → False) →
          (∀ (c : Code), x = Code.loop c → False) → (∀ (c : Code), x = Code.scope c → False) → dsts x = []) ∧
  (dstsOps [] = []) ∧
  (∀ (o : Oper) (r : List Oper),
  dstsOps (o :: r) =
    match Oper.dst o with
    | some d => d :: dstsOps r
    | none => dstsOps r) ∧
  (∀ (P : Program) (L : Lst) (f : Regs) (t : Tmp), resS P L f (ResultVar.tmp t) = some (f t)) ∧
  (∀ (P : Program) (L : Lst) (f : Regs) (p : Tmp) (ty : TypeId),
  resS P L f (ResultVar.cell p ty) =
    match f p with
    | SV.c (CV.bp i 0) =>
      match look L i with
      | some (Box.str ty_1 cs) =>
        match tyS P ty with
        | TS.agg k => if k = List.length cs then some (mkAg cs) else none
        | TS.one =>
          match cs with
          | [c] => some (SV.c c)
          | x => none
        | TS.bad => none
      | x => none
    | x => none) ∧
  (∀ (P : Program) (L : Lst) (f : Regs), resAll P L f [] = some []) ∧
  (∀ (P : Program) (L : Lst) (f : Regs) (r : ResultVar) (rs : List ResultVar),
  resAll P L f (r :: rs) =
    match resS P L f r with
    | some s =>
      match resAll P L f rs with
      | some ss => some (s :: ss)
      | none => none
    | none => none) ∧
  (∀ (v : Value), wrapRes [v] = v) ∧
  (∀ (x : List Value), (∀ (v : Value), x = [v] → False) → wrapRes x = Value.tuple (List.toArray x)) ∧
  (∀ (P : Program) (rs : List ResultVar) (R : Value → World → Prop) (f : Regs) (L : Lst) (m : World),
  vcRet P rs R f L m =
    match resAll P L f rs with
    | some ss => vcOut 12 ss (fun vs x x_1 m' => R (wrapRes vs) m') f L m
    | none => False) ∧
  (∀ (P : Program) (e sz k : Nat),
  zerosOf P e sz k =
    match zeroC P e with
    | some z => if List.length z = sz then some (List.flatten (List.replicate k z)) else none
    | none => none) ∧
  (∀ (t : TypeId) (cs : List CV), Box.cells (Box.str t cs) = cs) ∧
  (∀ (t : TypeId) (vs : List Value) (cap : Nat), Box.cells (Box.arr t vs cap) = List.map CV.v vs) ∧
  (∀ (t : TypeId) (cs : List CV), Box.ty (Box.str t cs) = t) ∧
  (∀ (t : TypeId) (vs : List Value) (cap : Nat), Box.ty (Box.arr t vs cap) = t) ∧
  (∀ (t : TypeId) (cs : List CV), Box.cap (Box.str t cs) = none) ∧
  (∀ (t : TypeId) (vs : List Value) (c : Nat), Box.cap (Box.arr t vs c) = some c) ∧
  (∀ (P : Program) (t : TypeId) (ad : Addr) (n : Nat) (d : Option Nat) (K : K0) (f : Regs) (L : Lst)
  (m : World),
  LoadM P t ad n d K f L m =
    match tyS P t with
    | TS.one => LoadK1 m ad n d K f L
    | TS.agg c => LoadKA m ad c n d K f L
    | TS.bad => False)) ∧
  ((∀ (x : Nat), inN [] x = false) ∧
  (∀ (x w : Nat) (ws : List Nat), inN (w :: ws) x = if w = x then true else inN ws x) ∧
  (∀ (ws : List Nat) (i off : Nat), mixC ws (CV.bp i off) = if inN ws i = true then CV.dead else CV.bp i off) ∧
  (∀ (ws : List Nat) (i len : Nat), mixC ws (CV.bs i len) = if inN ws i = true then CV.dead else CV.bs i len) ∧
  (∀ (ws : List Nat) (x : CV),
  (∀ (i off : Nat), x = CV.bp i off → False) → (∀ (i len : Nat), x = CV.bs i len → False) → mixC ws x = x) ∧
  (∀ (ws : List Nat) (x_1 : CV), mixS ws (SV.c x_1) = SV.c (mixC ws x_1)) ∧
  (∀ (ws : List Nat) (cs : List CV), mixS ws (SV.ag cs) = SV.ag (List.map (mixC ws) cs)) ∧
  (∀ (k : IntKind) (k_1 : Int), ixS (SV.c (CV.v (Value.int k k_1))) = k_1) ∧
  (∀ (x : SV), (∀ (k : IntKind) (k_1 : Int), x = SV.c (CV.v (Value.int k k_1)) → False) → ixS x = 0) ∧
  (∀ (i j i_1 off : Nat),
  renC i j (CV.bp i_1 off) = if i_1 = i then CV.bp j off else if i_1 = j then CV.dead else CV.bp i_1 off) ∧
  (∀ (i j i_1 len : Nat),
  renC i j (CV.bs i_1 len) = if i_1 = i then CV.bs j len else if i_1 = j then CV.dead else CV.bs i_1 len) ∧
  (∀ (i j : Nat) (x : CV),
  (∀ (i off : Nat), x = CV.bp i off → False) → (∀ (i len : Nat), x = CV.bs i len → False) → renC i j x = x) ∧
  (∀ (i j : Nat) (x_1 : CV), renS i j (SV.c x_1) = SV.c (renC i j x_1)) ∧
  (∀ (i j : Nat) (cs : List CV), renS i j (SV.ag cs) = SV.ag (List.map (renC i j) cs)) ∧
  (∀ (i j : Nat) (t : TypeId) (cs : List CV), renB i j (Box.str t cs) = Box.str t (List.map (renC i j) cs)) ∧
  (∀ (i j : Nat) (t : TypeId) (vs : List Value) (c : Nat), renB i j (Box.arr t vs c) = Box.arr t vs c) ∧
  (∀ (i j : Nat), renL i j [] = []) ∧
  (∀ (i j j_1 : Nat) (x_1 : Box) (r : List (Nat × Box)),
  renL i j ((j_1, x_1) :: r) =
    if j_1 = i then (j, renB i j x_1) :: renL i j r
    else if j_1 = j then renL i j r else (j_1, renB i j x_1) :: renL i j r) ∧
  (∀ (ws : List Nat) (f : Regs) (L : Lst) (k : Regs → Lst → Prop), rens ws [] f L k = k f L) ∧
  (∀ (ws : List Nat) (f : Regs) (L : Lst) (k : Regs → Lst → Prop) (i j : Nat) (r : List (Nat × Nat)),
  rens ws ((i, j) :: r) f L k = (i ≠ j ∧ inN ws j = true ∧ rens ws r (renR i j f) (renL i j L) k))) ∧
  ((∀ (i : Nat), remN i [] = []) ∧
  (∀ (i i_1 : Nat) (tail : List Nat),
  remN i (i_1 :: tail) = if i_1 = i then remN i tail else i_1 :: remN i tail) ∧
  (∀ (ops : Array Oper) (x : Regs), deads ops [] x = True) ∧
  (∀ (ops : Array Oper) (x : Regs) (i : Nat) (r : List Nat),
  deads ops (i :: r) x =
    ((match guardSlot ops i with
      | some d => x d = SV.c CV.dead
      | none => True) ∧
      deads ops r x)) ∧
  (∀ (o : Oper) (f : Regs) (L : Lst),
  cap0 o f L =
    match Oper.op o with
    | Op.call c =>
      match Array.toList (Call.args c) with
      | x :: tail =>
        match ev f x with
        | SV.c (CV.bs i len) =>
          match look L i with
          | some (Box.arr ty vs cap) => cap = 0
          | x => False
        | x => False
      | [] => False
    | x => False)) := qs10
end Go.Vc
