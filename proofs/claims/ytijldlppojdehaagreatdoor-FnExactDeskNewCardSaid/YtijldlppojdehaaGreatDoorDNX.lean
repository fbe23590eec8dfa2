/-
  Catalogs.
  Conditions: none.
-/
import Derived.Test.YtijldlppojdehaaGreatDoorDNA
set_option linter.unusedVariables false
set_option linter.unusedSimpArgs false
set_option linter.unusedSectionVars false
set_option maxRecDepth 8000
namespace Go.Proofs.YtijldlppojdehaaGreatDoor
open Go Go.Dv
open Go.Vc (D shrI xorI andI and255)
mutual
inductive Col where
 | mk (name : ByteArray) (ty : Int)
end
mutual
def Col.row : Col → List D
 | .mk name ty => str name :: int ty :: []
end
theorem Col.row_mk (name : ByteArray) (ty : Int) : (Col.mk name ty).row = str name :: int ty :: [] := by rw [Col.row]
theorem Col.row_len (x : Col) : x.row.length = 2 := by cases x; simp [Col.row]
theorem Col.tk (x : Col) (r : List D) : takeD 2 (x.row ++ r) = some x.row := takeD_row (Col.row_len x)
theorem Col.ne (x : Col) (r : List D) : x.row ++ r ≠ [] := fun h => by have := congrArg List.length h; simp [Col.row_len] at this
mutual
inductive Table where
 | mk (name : ByteArray) (cols : List Col)
end
mutual
def Table.row : Table → List D
 | .mk name cols => str name :: .sl cols.length (cols.flatMap Col.row) :: []
end
theorem Table.row_mk (name : ByteArray) (cols : List Col) : (Table.mk name cols).row = str name :: .sl cols.length (cols.flatMap Col.row) :: [] := by rw [Table.row]
theorem Table.row_len (x : Table) : x.row.length = 2 := by cases x; simp [Table.row]
theorem Table.tk (x : Table) (r : List D) : takeD 2 (x.row ++ r) = some x.row := takeD_row (Table.row_len x)
theorem Table.ne (x : Table) (r : List D) : x.row ++ r ≠ [] := fun h => by have := congrArg List.length h; simp [Table.row_len] at this
mutual
inductive Catalog where
 | mk (tables : List Table)
end
mutual
def Catalog.row : Catalog → List D
 | .mk tables => .sl tables.length (tables.flatMap Table.row) :: []
end
theorem Catalog.row_mk (tables : List Table) : (Catalog.mk tables).row = .sl tables.length (tables.flatMap Table.row) :: [] := by rw [Catalog.row]
theorem Catalog.row_len (x : Catalog) : x.row.length = 1 := by cases x; simp [Catalog.row]
def Table.name : Table → ByteArray | .mk n _ => n
def Table.cols : Table → List Col | .mk _ c => c
def Col.name : Col → ByteArray | .mk n _ => n
def Col.ty : Col → Int | .mk _ t => t
def plO {α : Type} (p : α → Bool) (l : List α) : Int := match l.findIdx? p with | some i => i | none => -1
theorem plO_hit {α : Type} {p : α → Bool} {l : List α} {i : Nat} (h : i < l.length) (hp : p l[i] = true) (hn : ∀ j (hj : j < l.length), j < i → p l[j] = false) : plO p l = i := by
 have : l.findIdx? p = some i := List.findIdx?_eq_some_iff_getElem.2 ⟨h, hp, fun j hj => by rw [hn j (by omega) hj]; simp⟩
 unfold plO; rw [this]
theorem plO_none {α : Type} {p : α → Bool} {l : List α} (hn : ∀ j (hj : j < l.length), p l[j] = false) : plO p l = -1 := by
 have : l.findIdx? p = none := List.findIdx?_eq_none_iff.2 fun x hx => by
  obtain ⟨j, hj, rfl⟩ := List.mem_iff_getElem.1 hx
  exact hn j hj
 unfold plO; rw [this]
theorem TableAt_d (tables : List Table) (s : ByteArray) : Cl Tryz.prog 87 [.ag (csOf (Catalog.mk tables).row), vs s] [] fun r _ => r = vi (plO (fun t : Table => decide (t.name = s)) tables) := by
 obtain ⟨z, hz⟩ : ∃ z, z = plO (fun t : Table => decide (t.name = s)) tables := ⟨_, rfl⟩
 rw [← hz, Catalog.row_mk]
 refine cl_of_d follows_mixed false Tryz.func87 rfl (by kernel_rfl) ?_
 simp only [Tryz.f87, tt, seval]
 refine dLoop.intro (fun f L p => ∃ i : Nat, f 5 = vi i ∧ i ≤ tables.length ∧ (∀ j (hj : j < tables.length), j < i → tables[j].name ≠ s) ∧ L = [(2, .str [.sl tables.length (tables.flatMap Table.row) none])] ∧ p = none) (fun f _ _ => (tables.length - ixS (f 5)).toNat) [(2, .str [.sl tables.length (tables.flatMap Table.row) none])] none ⟨SubO.cons rfl (SubO.nil _), PoSub.none _, ?_⟩ ?_
 ·simp only [tt, seval]
  exact ⟨0, rfl, Nat.zero_le _, fun j _ h => absurd h (Nat.not_lt_zero _)⟩
 ·rintro g L p ⟨i, ix, hi, hal, rfl, rfl⟩
  simp only [tt, seval] at ix
  simp only [tt, seval, ix, Int.ofNat_lt]
  refine fun _ => And.intro (fun hlt => ?_) (fun hge => ?_)
  ·have hlt : i < tables.length := by omega
   obtain ⟨t, ht⟩ : ∃ t, t = tables[i] := ⟨_, rfl⟩
   refine ⟨by omega, by omega, _, drop_row Table.row_len (List.getElem?_eq_getElem hlt), Table.ne _ _, ?_⟩
   rw [← ht]
   obtain ⟨nm, x⟩ := t
   simp only [tt, seval, ix, Table.row_mk, lc]
   by_cases h : nm = s
   ·simp only [tt, seval, h, decide_true]
    try refine And.intro (fun _ => ?_) (fun h => ?_)
    exact ⟨_, _, viE (by rw [hz]; exact (plO_hit hlt (by rw [← ht]; exact decide_eq_true h) fun j hj hji => decide_eq_false (hal j hj hji)).symm), end0 rfl⟩
   ·simp only [tt, seval, decide_eq_false h, h]
    try refine And.intro (fun h => ?_) (fun _ => ?_)
    try rw [wrS i (by omega)]
    exact ⟨_, none, SubO.cons rfl (SubO.nil _), PoSub.none _, ⟨i + 1, rfl, by omega, fun j hj hji => by
     by_cases e : j = i
     ·subst e; rw [← ht]; exact h
     ·exact hal j hj (by omega), rfl, rfl⟩, by simp only [ixS]; omega⟩
  ·exact ⟨_, _, viE (by rw [hz]; exact (plO_none (l := tables) fun j hj => decide_eq_false (hal j hj (by omega))).symm), end0 rfl⟩
theorem ColAt_d (nm0 : ByteArray) (cols : List Col) (s : ByteArray) : Cl Tryz.prog 88 [.ag (csOf (Table.mk nm0 cols).row), vs s] [] fun r _ => r = vi (plO (fun t : Col => decide (t.name = s)) cols) := by
 obtain ⟨z, hz⟩ : ∃ z, z = plO (fun t : Col => decide (t.name = s)) cols := ⟨_, rfl⟩
 rw [← hz, Table.row_mk]
 refine cl_of_d follows_mixed false Tryz.func88 rfl (by kernel_rfl) ?_
 simp only [Tryz.f88, tt, seval]
 refine dLoop.intro (fun f L p => ∃ i : Nat, f 5 = vi i ∧ i ≤ cols.length ∧ (∀ j (hj : j < cols.length), j < i → cols[j].name ≠ s) ∧ L = [(2, .str [.v (.string nm0), .sl cols.length (cols.flatMap Col.row) none])] ∧ p = none) (fun f _ _ => (cols.length - ixS (f 5)).toNat) [(2, .str [.v (.string nm0), .sl cols.length (cols.flatMap Col.row) none])] none ⟨SubO.cons rfl (SubO.nil _), PoSub.none _, ?_⟩ ?_
 ·simp only [tt, seval]
  exact ⟨0, rfl, Nat.zero_le _, fun j _ h => absurd h (Nat.not_lt_zero _)⟩
 ·rintro g L p ⟨i, ix, hi, hal, rfl, rfl⟩
  simp only [tt, seval] at ix
  simp only [tt, seval, ix, Int.ofNat_lt]
  refine fun _ => And.intro (fun hlt => ?_) (fun hge => ?_)
  ·have hlt : i < cols.length := by omega
   obtain ⟨t, ht⟩ : ∃ t, t = cols[i] := ⟨_, rfl⟩
   refine ⟨by omega, by omega, _, drop_row Col.row_len (List.getElem?_eq_getElem hlt), Col.ne _ _, ?_⟩
   rw [← ht]
   obtain ⟨nm, x⟩ := t
   simp only [tt, seval, ix, Col.row_mk, lc]
   by_cases h : nm = s
   ·simp only [tt, seval, h, decide_true]
    try refine And.intro (fun _ => ?_) (fun h => ?_)
    exact ⟨_, _, viE (by rw [hz]; exact (plO_hit hlt (by rw [← ht]; exact decide_eq_true h) fun j hj hji => decide_eq_false (hal j hj hji)).symm), end0 rfl⟩
   ·simp only [tt, seval, decide_eq_false h, h]
    try refine And.intro (fun h => ?_) (fun _ => ?_)
    try rw [wrS i (by omega)]
    exact ⟨_, none, SubO.cons rfl (SubO.nil _), PoSub.none _, ⟨i + 1, rfl, by omega, fun j hj hji => by
     by_cases e : j = i
     ·subst e; rw [← ht]; exact h
     ·exact hal j hj (by omega), rfl, rfl⟩, by simp only [ixS]; omega⟩
  ·exact ⟨_, _, viE (by rw [hz]; exact (plO_none (l := cols) fun j hj => decide_eq_false (hal j hj (by omega))).symm), end0 rfl⟩
theorem iTableAt_d_c (t : Table) (s : ByteArray) : Cl Tryz.prog 146 [.ag (csOf t.row), .c (.p 9000 0)] [[.v (.string s)]] fun r os => r = vb (decide (t.name = s)) ∧ os = [[.v (.string s)]] := by
 obtain ⟨n, x⟩ := t
 rw [Table.row_mk]
 refine cl_of_d follows_mixed false Tryz.func146 rfl (by kernel_rfl) ?_
 simp only [Tryz.f146, tt, seval]
 exact ⟨_, _, ⟨rfl, rfl⟩, end1 rfl rfl⟩
theorem iTableAt_d_f (l : List Table) (s : ByteArray) : Cl Tryz.prog 145 [.c (.sl l.length (l.flatMap Table.row) none), .c (.fn 146 [] [9000])] [[.v (.string s)]] fun r os => r = vi (plO (fun t : Table => decide (t.name = s)) l) ∧ os = [[.v (.string s)]] := by
 obtain ⟨z, hz⟩ : ∃ z, z = plO (fun t : Table => decide (t.name = s)) l := ⟨_, rfl⟩
 rw [← hz]
 refine cl_of_d follows_mixed false Tryz.func145 rfl (by kernel_rfl) ?_
 simp only [Tryz.f145, tt, seval]
 refine fun _ => ?_
 refine dLoop.intro (fun f L p => ∃ i : Nat, f 8 = vi i ∧ i ≤ l.length ∧ (∀ j (hj : j < l.length), j < i → l[j].name ≠ s) ∧ L = [(9000, .str [.v (.string s)])] ∧ p = none) (fun f _ _ => (l.length - ixS (f 8)).toNat) [(9000, .str [.v (.string s)])] none ⟨SubO.cons rfl (SubO.nil _), PoSub.none _, ?_⟩ ?_
 ·simp only [tt, seval]
  exact ⟨0, rfl, Nat.zero_le _, fun j _ h => absurd h (Nat.not_lt_zero _)⟩
 ·rintro g L p ⟨i, ix, hi, hal, rfl, rfl⟩
  simp only [tt, seval] at ix
  simp only [tt, seval, ix, Int.ofNat_lt]
  refine And.intro (fun hlt => ?_) (fun hge => ?_)
  ·have hlt : i < l.length := by omega
   refine ⟨by omega, by omega, _, drop_row Table.row_len (List.getElem?_eq_getElem hlt), Table.ne _ _, ?_⟩
   simp only [tt, seval, ix, Table.tk, Table.row_len]
   refine cS (iTableAt_d_c l[i] s) (by decide) ?_ ?_ <;> simp only [tt, seval, ix]
   refine And.intro (fun h => ?_) (fun h => ?_)
   ·skip
    exact ⟨_, _, ⟨viE (by rw [hz]; exact (plO_hit hlt (decide_eq_true h) fun j hj hji => decide_eq_false (hal j hj hji)).symm), rfl⟩, end1 rfl rfl⟩
   ·try simp only [tt, seval, ix]
    try rw [wrS i (by omega)]
    exact ⟨_, none, SubO.cons rfl (SubO.nil _), PoSub.none _, ⟨i + 1, rfl, by omega, fun j hj hji => by
     by_cases e : j = i
     ·subst e; exact h
     ·exact hal j hj (by omega), rfl, rfl⟩, by simp only [ixS]; omega⟩
  ·exact ⟨_, _, ⟨viE (by rw [hz]; exact (plO_none (l := l) fun j hj => decide_eq_false (hal j hj (by omega))).symm), rfl⟩, end1 rfl rfl⟩
theorem iTableAt_d (tables : List Table) (s : ByteArray) : Cl Tryz.prog 97 [.ag (csOf (Catalog.mk tables).row), vs s] [] fun r _ => r = vi (plO (fun t : Table => decide (t.name = s)) tables) := by
 rw [Catalog.row_mk]
 refine cl_of_d follows_mixed false Tryz.func97 rfl (by kernel_rfl) ?_
 simp only [Tryz.f97, tt, seval]
 refine cS (iTableAt_d_f tables s) (by decide) ?_ ?_ <;> simp only [tt, seval]
 exact ⟨_, _, rfl, end0 rfl⟩
theorem iColAt_d_c (t : Col) (s : ByteArray) : Cl Tryz.prog 189 [.ag (csOf t.row), .c (.p 9000 0)] [[.v (.string s)]] fun r os => r = vb (decide (t.name = s)) ∧ os = [[.v (.string s)]] := by
 obtain ⟨n, x⟩ := t
 rw [Col.row_mk]
 refine cl_of_d follows_mixed false Tryz.func189 rfl (by kernel_rfl) ?_
 simp only [Tryz.f189, tt, seval]
 exact ⟨_, _, ⟨rfl, rfl⟩, end1 rfl rfl⟩
theorem iColAt_d_f (l : List Col) (s : ByteArray) : Cl Tryz.prog 188 [.c (.sl l.length (l.flatMap Col.row) none), .c (.fn 189 [] [9000])] [[.v (.string s)]] fun r os => r = vi (plO (fun t : Col => decide (t.name = s)) l) ∧ os = [[.v (.string s)]] := by
 obtain ⟨z, hz⟩ : ∃ z, z = plO (fun t : Col => decide (t.name = s)) l := ⟨_, rfl⟩
 rw [← hz]
 refine cl_of_d follows_mixed false Tryz.func188 rfl (by kernel_rfl) ?_
 simp only [Tryz.f188, tt, seval]
 refine fun _ => ?_
 refine dLoop.intro (fun f L p => ∃ i : Nat, f 8 = vi i ∧ i ≤ l.length ∧ (∀ j (hj : j < l.length), j < i → l[j].name ≠ s) ∧ L = [(9000, .str [.v (.string s)])] ∧ p = none) (fun f _ _ => (l.length - ixS (f 8)).toNat) [(9000, .str [.v (.string s)])] none ⟨SubO.cons rfl (SubO.nil _), PoSub.none _, ?_⟩ ?_
 ·simp only [tt, seval]
  exact ⟨0, rfl, Nat.zero_le _, fun j _ h => absurd h (Nat.not_lt_zero _)⟩
 ·rintro g L p ⟨i, ix, hi, hal, rfl, rfl⟩
  simp only [tt, seval] at ix
  simp only [tt, seval, ix, Int.ofNat_lt]
  refine And.intro (fun hlt => ?_) (fun hge => ?_)
  ·have hlt : i < l.length := by omega
   refine ⟨by omega, by omega, _, drop_row Col.row_len (List.getElem?_eq_getElem hlt), Col.ne _ _, ?_⟩
   simp only [tt, seval, ix, Col.tk, Col.row_len]
   refine cS (iColAt_d_c l[i] s) (by decide) ?_ ?_ <;> simp only [tt, seval, ix]
   refine And.intro (fun h => ?_) (fun h => ?_)
   ·skip
    exact ⟨_, _, ⟨viE (by rw [hz]; exact (plO_hit hlt (decide_eq_true h) fun j hj hji => decide_eq_false (hal j hj hji)).symm), rfl⟩, end1 rfl rfl⟩
   ·try simp only [tt, seval, ix]
    try rw [wrS i (by omega)]
    exact ⟨_, none, SubO.cons rfl (SubO.nil _), PoSub.none _, ⟨i + 1, rfl, by omega, fun j hj hji => by
     by_cases e : j = i
     ·subst e; exact h
     ·exact hal j hj (by omega), rfl, rfl⟩, by simp only [ixS]; omega⟩
  ·exact ⟨_, _, ⟨viE (by rw [hz]; exact (plO_none (l := l) fun j hj => decide_eq_false (hal j hj (by omega))).symm), rfl⟩, end1 rfl rfl⟩
theorem iColAt_d (nm0 : ByteArray) (cols : List Col) (s : ByteArray) : Cl Tryz.prog 144 [.ag (csOf (Table.mk nm0 cols).row), vs s] [] fun r _ => r = vi (plO (fun t : Col => decide (t.name = s)) cols) := by
 rw [Table.row_mk]
 refine cl_of_d follows_mixed false Tryz.func144 rfl (by kernel_rfl) ?_
 simp only [Tryz.f144, tt, seval]
 refine cS (iColAt_d_f cols s) (by decide) ?_ ?_ <;> simp only [tt, seval]
 exact ⟨_, _, rfl, end0 rfl⟩
def allI {α : Type} (p : Nat → α → Bool) (l : List α) : Bool := l.zipIdx.all fun x => p x.2 x.1
theorem allI_true {α : Type} {p : Nat → α → Bool} {l : List α} (h : ∀ i (hi : i < l.length), p i l[i] = true) : allI p l = true := by
 unfold allI
 rw [List.all_eq_true]
 intro x hx
 obtain ⟨a, i⟩ := x
 have := List.mem_zipIdx hx
 simp only [Nat.zero_le, Nat.zero_add, true_and, Nat.sub_zero] at this
 obtain ⟨hi, e⟩ := this
 rw [e]
 exact h i (by simpa using hi)
theorem allI_false {α : Type} {p : Nat → α → Bool} {l : List α} {i : Nat} (hi : i < l.length) (h : p i l[i] = false) : allI p l = false := by
 cases e : allI p l with
 | false => rfl
 | true =>
  unfold allI at e
  rw [List.all_eq_true] at e
  have := e (l[i], i) (by rw [List.mem_zipIdx_iff_getElem?]; simp [hi])
  rw [h] at this
  cases this
def szOk (s : ByteArray) : Bool := decide (1 ≤ s.size ∧ s.size ≤ 20)
def colOk (cols : List Col) (i : Nat) (c : Col) : Bool := szOk c.name && decide (1 ≤ c.ty ∧ c.ty ≤ 3) && decide (plO (fun x : Col => decide (x.name = c.name)) cols = i)
def tabOk (t : Table) : Bool := szOk t.name && decide (1 ≤ t.cols.length ∧ t.cols.length ≤ 4) && allI (colOk t.cols) t.cols
def catOk (tables : List Table) : Bool := decide (tables.length ≤ 4) && allI (fun i t => tabOk t && decide (plO (fun x : Table => decide (x.name = t.name)) tables = i)) tables
theorem isTable_d (tn : ByteArray) (cols : List Col) (hl : cols.length ≤ 1048576) : Cl Tryz.prog 96 [.ag (csOf (Table.mk tn cols).row)] [] fun r _ => r = vb (tabOk (.mk tn cols)) := by
 obtain ⟨z, hz⟩ : ∃ z, z = tabOk (.mk tn cols) := ⟨_, rfl⟩
 rw [← hz]
 have hC := fun s => iColAt_d tn cols s
 rw [Table.row_mk] at hC ⊢
 have hz : z = (szOk tn && decide (1 ≤ cols.length ∧ cols.length ≤ 4) && allI (colOk cols) cols) := hz
 refine cl_of_d follows_mixed false Tryz.func96 rfl (by kernel_rfl) ?_
 simp only [Tryz.f96, tt, seval]
 refine fun _ => ?_
 refine dLoop.intro (fun f L p => ∃ i : Nat, f 8 = vi i ∧ i ≤ cols.length ∧ (∀ j (hj : j < cols.length), j < i → colOk cols j cols[j] = true) ∧ L = [(1, .str [.v (.string tn), .sl cols.length (cols.flatMap Col.row) none])] ∧ p = none) (fun f _ _ => (cols.length - ixS (f 8)).toNat) [(1, .str [.v (.string tn), .sl cols.length (cols.flatMap Col.row) none])] none ⟨SubO.cons rfl (SubO.nil _), PoSub.none _, ?_⟩ ?_
 ·simp only [tt, seval]
  exact ⟨0, rfl, Nat.zero_le _, fun j _ h => absurd h (Nat.not_lt_zero _)⟩
 ·rintro g L p ⟨i, ix, hi, hal, rfl, rfl⟩
  simp only [tt, seval] at ix
  simp only [tt, seval, ix, Int.ofNat_lt]
  refine And.intro (fun hlt => ?_) (fun hge => ?_)
  ·have hlt : i < cols.length := by omega
   obtain ⟨c, hc⟩ : ∃ c, c = cols[i] := ⟨_, rfl⟩
   have hno : colOk cols i c = false → z = false := fun h => by rw [hz, allI_false hlt (by rw [← hc]; exact h), Bool.and_false]
   have hyes : colOk cols i c = true → ∀ j (hj : j < cols.length), j < i + 1 → colOk cols j cols[j] = true := fun h j hj hji => by
    by_cases e : j = i
    ·subst e; rw [← hc]; exact h
    ·exact hal j hj (by omega)
   refine ⟨by omega, by omega, _, drop_row Col.row_len (List.getElem?_eq_getElem hlt), Col.ne _ _, ?_⟩
   rw [← hc]
   obtain ⟨cn, ct⟩ := c
   have hco : colOk cols i (.mk cn ct) = (decide (1 ≤ cn.size ∧ cn.size ≤ 20) && decide (1 ≤ ct ∧ ct ≤ 3) && decide (plO (fun x : Col => decide (x.name = cn)) cols = i)) := rfl
   have hCc := hC cn
   obtain ⟨k, hk⟩ : ∃ k, k = plO (fun x : Col => decide (x.name = cn)) cols := ⟨_, rfl⟩
   rw [← hk] at hCc hco
   simp only [tt, seval, ix, Col.tk, Col.row_len, Col.row_mk]
   refine cZ (iNameOk_d cn) (by decide) ?_ ?_ <;> simp only [tt, seval, ix]
   cases hb : decide (1 ≤ cn.size ∧ cn.size ≤ 20)
   ·try simp only [tt, seval, hb, ix]
    exact ⟨_, _, vbE (hno (by rw [hco, hb]; rfl)).symm, end0 rfl⟩
   try simp only [tt, seval, hb, ix]
   rw [hb, Bool.true_and] at hco
   by_cases h1 : ct < 1
   ·try simp only [tt, seval, decide_eq_true h1, h1, decide_true, ix]
    exact ⟨_, _, vbE (hno (by rw [hco, decide_eq_false (by omega)]; rfl)).symm, end0 rfl⟩
   try simp only [tt, seval, decide_eq_false h1, ix]
   by_cases h2 : 3 < ct
   ·try simp only [tt, seval, decide_eq_true h2, h2, decide_true, ix]
    exact ⟨_, _, vbE (hno (by rw [hco, decide_eq_false (by omega)]; rfl)).symm, end0 rfl⟩
   try simp only [tt, seval, decide_eq_false h2, ix]
   rw [decide_eq_true (show 1 ≤ ct ∧ ct ≤ 3 by omega), Bool.true_and] at hco
   refine cZ (hCc) (by decide) ?_ ?_ <;> simp only [tt, seval, ix]
   by_cases h3 : k = i
   ·rw [decide_eq_true h3] at hco
    try simp only [tt, seval, h3, decide_true, ix]
    rw [wrS i (by omega)]
    exact ⟨_, none, SubO.cons rfl (SubO.nil _), PoSub.none _, ⟨i + 1, rfl, by omega, hyes hco, rfl, rfl⟩, by simp only [ixS]; omega⟩
   ·rw [decide_eq_false h3] at hco
    try simp only [tt, seval, h3, decide_eq_false h3, ix]
    exact ⟨_, _, vbE (hno hco).symm, end0 rfl⟩
  ·have hall : allI (colOk cols) cols = true := allI_true fun j hj => hal j hj (by omega)
   rw [hall, Bool.and_true] at hz
   refine cZ (iNameOk_d tn) (by decide) ?_ ?_ <;> simp only [tt, seval, ix]
   cases hb : decide (1 ≤ tn.size ∧ tn.size ≤ 20)
   ·try simp only [tt, seval, hb, ix]
    exact ⟨_, _, vbE (by rw [hz, szOk, hb]; rfl), end0 rfl⟩
   try simp only [tt, seval, hb, ix]
   refine fun _ => ?_
   rw [szOk, hb, Bool.true_and] at hz
   by_cases h1 : 1 ≤ cols.length
   ·try simp only [tt, seval, decide_eq_true (show (1 : Int) ≤ cols.length by omega)]
    try refine fun _ => ?_
    try simp only [tt, seval]
    exact ⟨_, _, vbE (by rw [hz]; first | rfl | (exact decide_eq_decide.2 (by omega))), end0 rfl⟩
   ·try simp only [tt, seval, decide_eq_false (show ¬ (1 : Int) ≤ cols.length by omega)]
    try refine fun _ => ?_
    try simp only [tt, seval]
    exact ⟨_, _, vbE (by rw [hz, decide_eq_false (by omega)]), end0 rfl⟩
def catP (tables : List Table) (i : Nat) (t : Table) : Bool := tabOk t && decide (plO (fun x : Table => decide (x.name = t.name)) tables = i)
theorem catOk_eq (tables : List Table) : catOk tables = (decide (tables.length ≤ 4) && allI (catP tables) tables) := rfl
theorem iCatalogOk_d (tables : List Table) (hl : tables.length ≤ 1048576) (hT : ∀ t ∈ tables, t.cols.length ≤ 1048576) : Cl Tryz.prog 58 [.ag (csOf (Catalog.mk tables).row)] [] fun r _ => r = vb (catOk tables) := by
 obtain ⟨z, hz⟩ : ∃ z, z = catOk tables := ⟨_, rfl⟩
 rw [← hz]
 rw [catOk_eq] at hz
 have hC := fun s => iTableAt_d tables s
 rw [Catalog.row_mk] at hC ⊢
 refine cl_of_d follows_mixed false Tryz.func58 rfl (by kernel_rfl) ?_
 simp only [Tryz.f58, tt, seval]
 refine fun _ => ?_
 refine dLoop.intro (fun f L p => ∃ i : Nat, f 8 = vi i ∧ i ≤ tables.length ∧ (∀ j (hj : j < tables.length), j < i → catP tables j tables[j] = true) ∧ L = [(1, .str [.sl tables.length (tables.flatMap Table.row) none])] ∧ p = none) (fun f _ _ => (tables.length - ixS (f 8)).toNat) [(1, .str [.sl tables.length (tables.flatMap Table.row) none])] none ⟨SubO.cons rfl (SubO.nil _), PoSub.none _, ?_⟩ ?_
 ·simp only [tt, seval]
  exact ⟨0, rfl, Nat.zero_le _, fun j _ h => absurd h (Nat.not_lt_zero _)⟩
 ·rintro g L p ⟨i, ix, hi, hal, rfl, rfl⟩
  simp only [tt, seval] at ix
  simp only [tt, seval, ix, Int.ofNat_lt]
  refine And.intro (fun hlt => ?_) (fun hge => ?_)
  ·have hlt : i < tables.length := by omega
   obtain ⟨c, hc⟩ : ∃ c, c = tables[i] := ⟨_, rfl⟩
   have hcl : c.cols.length ≤ 1048576 := by rw [hc]; exact hT _ (List.getElem_mem hlt)
   have hno : catP tables i c = false → z = false := fun h => by rw [hz, allI_false hlt (by rw [← hc]; exact h), Bool.and_false]
   have hyes : catP tables i c = true → ∀ j (hj : j < tables.length), j < i + 1 → catP tables j tables[j] = true := fun h j hj hji => by
    by_cases e : j = i
    ·subst e; rw [← hc]; exact h
    ·exact hal j hj (by omega)
   refine ⟨by omega, by omega, _, drop_row Table.row_len (List.getElem?_eq_getElem hlt), Table.ne _ _, ?_⟩
   rw [← hc]
   obtain ⟨cn, cc⟩ := c
   have hco : catP tables i (.mk cn cc) = (tabOk (.mk cn cc) && decide (plO (fun x : Table => decide (x.name = cn)) tables = i)) := rfl
   have hT1 := isTable_d cn cc hcl
   rw [Table.row_mk] at hT1
   have hCc := hC cn
   obtain ⟨k, hk⟩ : ∃ k, k = plO (fun x : Table => decide (x.name = cn)) tables := ⟨_, rfl⟩
   rw [← hk] at hCc hco
   simp only [tt, seval, ix, Table.tk, Table.row_len, Table.row_mk]
   refine cZ (hT1) (by decide) ?_ ?_ <;> simp only [tt, seval, ix]
   cases hb : tabOk (.mk cn cc)
   ·try simp only [tt, seval, hb, ix]
    exact ⟨_, _, vbE (hno (by rw [hco, hb]; rfl)).symm, end0 rfl⟩
   try simp only [tt, seval, hb, ix]
   rw [hb, Bool.true_and] at hco
   refine cZ (hCc) (by decide) ?_ ?_ <;> simp only [tt, seval, ix]
   by_cases h3 : k = i
   ·rw [decide_eq_true h3] at hco
    try simp only [tt, seval, h3, decide_true, ix]
    rw [wrS i (by omega)]
    exact ⟨_, none, SubO.cons rfl (SubO.nil _), PoSub.none _, ⟨i + 1, rfl, by omega, hyes hco, rfl, rfl⟩, by simp only [ixS]; omega⟩
   ·rw [decide_eq_false h3] at hco
    try simp only [tt, seval, h3, decide_eq_false h3, ix]
    exact ⟨_, _, vbE (hno hco).symm, end0 rfl⟩
  ·have hall : allI (catP tables) tables = true := allI_true fun j hj => hal j hj (by omega)
   rw [hall, Bool.and_true] at hz
   try simp only [tt, seval]
   try refine fun _ => ?_
   exact ⟨_, _, vbE (by rw [hz]; first | rfl | (exact decide_eq_decide.2 (by omega))), end0 rfl⟩
set_option maxHeartbeats 2000000 in
theorem CatalogOk_d (tables : List Table) (hl : tables.length ≤ 1048576) (hT : ∀ t ∈ tables, t.cols.length ≤ 1048576) : Cl Tryz.prog 50 [.ag (csOf (Catalog.mk tables).row)] [] fun r _ => r = vb (catOk tables) := by
 obtain ⟨z, hz⟩ : ∃ z, z = catOk tables := ⟨_, rfl⟩
 rw [← hz]
 rw [catOk_eq] at hz
 have hC := fun s => TableAt_d tables s
 rw [Catalog.row_mk] at hC ⊢
 refine cl_of_d follows_mixed false Tryz.func50 rfl (by kernel_rfl) ?_
 simp only [Tryz.f50, tt, seval]
 refine fun _ => And.intro (fun h4 => ?_) (fun h4 => ?_)
 ·exact ⟨_, _, vbE (by rw [hz, decide_eq_false (by omega)]; rfl), end0 rfl⟩
 rw [decide_eq_true (by omega), Bool.true_and] at hz
 refine dLoop.intro (fun f L p => ∃ i : Nat, f 3 = vi i ∧ i ≤ tables.length ∧ (∀ j (hj : j < tables.length), j < i → catP tables j tables[j] = true) ∧ L = [(1, .str [.sl tables.length (tables.flatMap Table.row) none])] ∧ p = none) (fun f _ _ => (tables.length - ixS (f 3)).toNat) [(1, .str [.sl tables.length (tables.flatMap Table.row) none])] none ⟨SubO.cons rfl (SubO.nil _), PoSub.none _, ?_⟩ ?_
 ·simp only [tt, seval]
  exact ⟨0, rfl, Nat.zero_le _, fun j _ h => absurd h (Nat.not_lt_zero _)⟩
 rintro g L p ⟨i, ix, hi, hal, rfl, rfl⟩
 simp only [tt, seval] at ix
 simp only [tt, seval, ix, Int.ofNat_lt]
 refine fun _ => And.intro (fun hlt => ?_) (fun hge => ?_)
 ·have hlt : i < tables.length := by omega
  obtain ⟨c, hc⟩ : ∃ c, c = tables[i] := ⟨_, rfl⟩
  have hcl : c.cols.length ≤ 1048576 := by rw [hc]; exact hT _ (List.getElem_mem hlt)
  have hno : catP tables i c = false → z = false := fun h => by rw [hz, allI_false hlt (by rw [← hc]; exact h)]
  have hyes : catP tables i c = true → ∀ j (hj : j < tables.length), j < i + 1 → catP tables j tables[j] = true := fun h j hj hji => by
   by_cases e : j = i
   ·subst e; rw [← hc]; exact h
   ·exact hal j hj (by omega)
  refine ⟨by omega, by omega, _, drop_row Table.row_len (List.getElem?_eq_getElem hlt), Table.ne _ _, ?_⟩
  rw [← hc]
  obtain ⟨cn, cols⟩ := c
  have hcl : cols.length ≤ 1048576 := hcl
  have hco : catP tables i (.mk cn cols) = ((decide (1 ≤ cn.size ∧ cn.size ≤ 20) && decide (1 ≤ cols.length ∧ cols.length ≤ 4) && allI (colOk cols) cols) && decide (plO (fun x : Table => decide (x.name = cn)) tables = i)) := rfl
  have hCc := hC cn
  have hA := fun s => ColAt_d cn cols s
  rw [Table.row_mk] at hA
  obtain ⟨k, hk⟩ : ∃ k, k = plO (fun x : Table => decide (x.name = cn)) tables := ⟨_, rfl⟩
  rw [← hk] at hCc hco
  simp only [tt, seval, ix, Table.tk, Table.row_len, Table.row_mk]
  refine cZ (NameOk_d cn) (by decide) ?_ ?_ <;> simp only [tt, seval, ix]
  cases hb : decide (1 ≤ cn.size ∧ cn.size ≤ 20)
  ·try simp only [tt, seval, hb, ix]
   exact ⟨_, _, vbE (hno (by rw [hco, hb]; rfl)).symm, end0 rfl⟩
  try simp only [tt, seval, hb, ix]
  rw [hb, Bool.true_and] at hco
  refine cZ (hCc) (by decide) ?_ ?_ <;> simp only [tt, seval, ix]
  by_cases h3 : k = i
  case neg =>
   rw [decide_eq_false h3, Bool.and_false] at hco
   try simp only [tt, seval, h3, decide_eq_false h3, ix]
   exact ⟨_, _, vbE (hno hco).symm, end0 rfl⟩
  rw [decide_eq_true h3, Bool.and_true] at hco
  try simp only [tt, seval, h3, decide_true, ix]
  refine fun _ => ?_
  refine cZ (l1In_d cols.length 1 4) (by decide) ?_ ?_ <;> simp only [tt, seval, ix]
  have hdl : decide ((1 : Int) ≤ cols.length ∧ (cols.length : Int) ≤ 4) = decide (1 ≤ cols.length ∧ cols.length ≤ 4) := decide_eq_decide.2 (by omega)
  rw [hdl]
  cases hb2 : decide (1 ≤ cols.length ∧ cols.length ≤ 4)
  ·try simp only [tt, seval, hb2, ix]
   exact ⟨_, _, vbE (hno (by rw [hco, hb2]; rfl)).symm, end0 rfl⟩
  try simp only [tt, seval, hb2, ix]
  rw [hb2, Bool.true_and] at hco
  refine dLoop.intro (fun f L p => ∃ q : Nat, f 5 = vi q ∧ q ≤ cols.length ∧ (∀ j (hj : j < cols.length), j < q → colOk cols j cols[j] = true) ∧ L = [(1, .str [.sl tables.length (tables.flatMap Table.row) none]), (4, .str [.v (.string cn), .sl cols.length (cols.flatMap Col.row) none])] ∧ p = none) (fun f _ _ => (cols.length - ixS (f 5)).toNat) [(1, .str [.sl tables.length (tables.flatMap Table.row) none]), (4, .str [.v (.string cn), .sl cols.length (cols.flatMap Col.row) none])] none ⟨SubO.cons rfl (SubO.cons rfl (SubO.nil _)), PoSub.none _, ?_⟩ ?_
  ·simp only [tt, seval]
   exact ⟨0, rfl, Nat.zero_le _, fun j _ h => absurd h (Nat.not_lt_zero _)⟩
  rintro g2 L p ⟨q, qx, hq, hal2, rfl, rfl⟩
  simp only [tt, seval] at qx
  simp only [tt, seval, ix, qx, Int.ofNat_lt]
  refine fun _ => And.intro (fun hlt2 => ?_) (fun hge2 => ?_)
  ·have hlt2 : q < cols.length := by omega
   obtain ⟨y, hy⟩ : ∃ y, y = cols[q] := ⟨_, rfl⟩
   have hno2 : colOk cols q y = false → z = false := fun h => hno (by rw [hco, allI_false hlt2 (by rw [← hy]; exact h)])
   have hyes2 : colOk cols q y = true → ∀ j (hj : j < cols.length), j < q + 1 → colOk cols j cols[j] = true := fun h j hj hji => by
    by_cases e : j = q
    ·subst e; rw [← hy]; exact h
    ·exact hal2 j hj (by omega)
   obtain ⟨yn, yt⟩ := y
   have hcy : colOk cols q (.mk yn yt) = (decide (1 ≤ yn.size ∧ yn.size ≤ 20) && decide (1 ≤ yt ∧ yt ≤ 3) && decide (plO (fun x : Col => decide (x.name = yn)) cols = q)) := rfl
   have hAy := hA yn
   obtain ⟨m, hm⟩ : ∃ m, m = plO (fun x : Col => decide (x.name = yn)) cols := ⟨_, rfl⟩
   rw [← hm] at hAy hcy
   refine dDrawn.intro [] (pln [0, 2, 4, 6, 8, 10, 13, 14, 16, 18, 20, 22, 24, 26, 28, 30, 34, 33, 36, 38, 40, 42, 44, 46, 48, 50, 52, 55, 56, 58]) (by kernel_rfl) ?_
   simp only [tt, seval]
   try simp only [tt, seval, ix, qx]
   refine ⟨by omega, by omega, _, drop_row Col.row_len (List.getElem?_eq_getElem hlt2), Col.ne _ _, ?_⟩
   rw [← hy]
   try simp only [tt, seval, ix, qx, Col.row_mk, lc]
   refine cZ (NameOk_d yn) (by decide) ?_ ?_ <;> simp only [tt, seval, ix, qx]
   cases hb3 : decide (1 ≤ yn.size ∧ yn.size ≤ 20)
   ·try simp only [tt, seval, hb3, ix, qx]
    exact ⟨_, _, vbE (hno2 (by rw [hcy, hb3]; rfl)).symm, end0 rfl⟩
   try simp only [tt, seval, hb3, ix, qx]
   rw [hb3, Bool.true_and] at hcy
   refine ⟨by omega, by omega, _, drop_row Col.row_len (List.getElem?_eq_getElem hlt2), Col.ne _ _, ?_⟩
   rw [← hy]
   try simp only [tt, seval, ix, qx, Col.row_mk, lc]
   refine cZ (hAy) (by decide) ?_ ?_ <;> simp only [tt, seval, ix, qx]
   by_cases h5 : m = q
   case neg =>
    rw [decide_eq_false h5, Bool.and_false] at hcy
    try simp only [tt, seval, h5, decide_eq_false h5, ix, qx]
    exact ⟨_, _, vbE (hno2 hcy).symm, end0 rfl⟩
   rw [decide_eq_true h5, Bool.and_true] at hcy
   try simp only [tt, seval, h5, decide_true, ix, qx]
   refine ⟨by omega, by omega, _, drop_row Col.row_len (List.getElem?_eq_getElem hlt2), Col.ne _ _, ?_⟩
   rw [← hy]
   try simp only [tt, seval, ix, qx, Col.row_mk, lc]
   refine cZ (l1In_d yt 1 3) (by decide) ?_ ?_ <;> simp only [tt, seval, ix, qx]
   cases hb6 : decide (1 ≤ yt ∧ yt ≤ 3)
   ·try simp only [tt, seval, hb6, ix, qx]
    exact ⟨_, _, vbE (hno2 (by rw [hcy, hb6])).symm, end0 rfl⟩
   try simp only [tt, seval, hb6, ix, qx]
   rw [wrap_id (n := (q : Int) + 1) (by omega) (by omega)]
   exact ⟨_, none, SubO.cons rfl (SubO.cons rfl (SubO.nil _)), PoSub.none _, ⟨q + 1, rfl, by omega, hyes2 (by rw [hcy, hb6]), rfl, rfl⟩, by simp only [ixS]; omega⟩
  ·have hall2 : allI (colOk cols) cols = true := allI_true fun j hj => hal2 j hj (by omega)
   try simp only [tt, seval, ix, qx]
   rw [wrS i (by omega)]
   exact ⟨_, none, SubO.cons rfl (SubO.nil _), PoSub.none _, ⟨i + 1, rfl, by omega, hyes (by rw [hco, hall2]), rfl, rfl⟩, by simp only [ixS]; omega⟩
 ·have hall : allI (catP tables) tables = true := allI_true fun j hj => hal j hj (by omega)
  rw [hall] at hz
  try simp only [tt, seval]
  exact ⟨_, _, vbE hz.symm, end0 rfl⟩
end Go.Proofs.YtijldlppojdehaaGreatDoor
