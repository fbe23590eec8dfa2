/-
  Draws.
  Conditions: none.
-/
import Derived.Test.YtfddkbckoapmfaaGreatDoorVTB3
set_option linter.unusedVariables false
set_option linter.unusedSimpArgs false
set_option linter.unusedSectionVars false
set_option maxRecDepth 8000
namespace Go.Proofs.YtfddkbckoapmfaaGreatDoor
open Go Go.Dv
open Go.Vc (D shrI xorI andI and255)
def brow (b : Int) : List D := [.lit (.int .u8 b)]
theorem brow_len (b : Int) : (brow b).length = 1 := rfl
theorem brow_tk (b : Int) (r : List D) : takeD 1 (brow b ++ r) = some (brow b) := takeD_row rfl
theorem brow_ne (b : Int) (r : List D) : brow b ++ r ≠ [] := fun h => by cases h
structure Cur where
 b : List Int
 i : Int
 h : Int
def Cur.cs (c : Cur) : List C := [.sl c.b.length (c.b.flatMap brow) none, .v (.int .i64 c.i), .v (.int .i64 c.h)]
def CuR (P : Int → Prop) (r : S) (os : List (List C)) : Prop := ∃ x c', r = vi x ∧ os = [Cur.cs c'] ∧ P x ∧ 0 ≤ c'.i
def CuS (P : S → Prop) (r : S) (os : List (List C)) : Prop := ∃ c' : Cur, P r ∧ os = [c'.cs] ∧ 0 ≤ c'.i
theorem l1Byte_d (c : Cur) (h0 : 0 ≤ c.i) : Cl Tryz.prog 55 [.c (.p 9000 0)] [c.cs] (CuR fun x => 0 ≤ x ∧ x ≤ 255) := by
 obtain ⟨bs, i, h⟩ := c
 have h0 : 0 ≤ i := h0
 rw [Cur.cs]
 refine cl_of_d follows_mixed false Tryz.func55 rfl (by kernel_rfl) ?_
 simp only [Tryz.f55, tt, seval]
 refine dDrawn.intro [] (pln [0, 2, 4, 6, 8, 10, 12, 14, 16, 18, 20, 22, 24]) (by kernel_rfl) ?_
 simp only [tt, seval]
 refine dDrawn.intro [] (pln [0, 2, 4, 6, 8, 10, 12, 14, 16, 18]) (by kernel_rfl) ?_
 simp only [tt, seval]
 intro hln
 refine And.intro (fun hlt => ?_) (fun hge => ?_)
 ·skip
  refine dDrawn.intro [] (pln [0, 2, 4, 6, 8, 10, 12, 14, 16, 18, 20, 22, 24, 26, 28]) (by kernel_rfl) ?_
  simp only [tt, seval]
  have hlt' : i.toNat < bs.length := by omega
  refine ⟨h0, hlt, _, drop_row brow_len (List.getElem?_eq_getElem hlt'), brow_ne _ _, ?_⟩
  simp only [tt, seval, brow_tk, brow]
  rw [wrap_id (n := i + 1) (by omega) (by omega)]
  exact ⟨_, _, ⟨_, ⟨bs, i + 1, _⟩, rfl, rfl, and255 _, by show (0 : Int) ≤ i + 1; omega⟩, end1 rfl rfl⟩
 ·skip
  exact ⟨_, _, ⟨_, ⟨bs, i, _⟩, rfl, rfl, and255 _, h0⟩, end1 rfl rfl⟩
theorem l1Below_d (c : Cur) (h0 : 0 ≤ c.i) (n : Int) : Cl Tryz.prog 28 [.c (.p 9000 0), vi n] [c.cs] (CuR fun x => 0 ≤ x ∧ (0 < n → x < n)) := by
 refine cl_of_d follows_mixed false Tryz.func28 rfl (by kernel_rfl) ?_
 simp only [Tryz.f28, tt, seval]
 refine And.intro (fun h => ?_) (fun h => And.intro (fun h1 => ?_) (fun h1 => ?_))
 ·exact ⟨_, _, ⟨0, c, rfl, rfl, ⟨by omega, by omega⟩, h0⟩, end1 rfl rfl⟩
 ·skip
  refine CallQ.intro (l1Byte_d c h0) ?_ ?_ ?_
  ·decide
  ·simp only [tt, seval, Cur.cs]
  rintro r os ⟨x, c1, rfl, rfl, hx, ix⟩ hos
  simp only [tt, seval, Cur.cs]
  rw [pu_rem (by omega)]
  simp only [tt, seval]
  exact ⟨_, _, ⟨_, c1, rfl, rfl, ⟨Int.tmod_nonneg _ hx.1, fun h2 => Int.tmod_lt_of_pos _ h2⟩, ix⟩, end1 rfl rfl⟩
 ·skip
  refine CallQ.intro (l1Byte_d c h0) ?_ ?_ ?_
  ·decide
  ·simp only [tt, seval, Cur.cs]
  rintro r os ⟨x, c1, rfl, rfl, hx, ix⟩ hos
  simp only [tt, seval, Cur.cs]
  refine CallQ.intro (l1Byte_d c1 ix) ?_ ?_ ?_
  ·decide
  ·simp only [tt, seval, Cur.cs]
  rintro r os ⟨y, c2, rfl, rfl, hy, iy⟩ hos
  simp only [tt, seval, Cur.cs]
  refine CallQ.intro (l1Byte_d c2 iy) ?_ ?_ ?_
  ·decide
  ·simp only [tt, seval, Cur.cs]
  rintro r os ⟨z, c3, rfl, rfl, hz, iz⟩ hos
  simp only [tt, seval, Cur.cs]
  refine CallQ.intro (l1Byte_d c3 iz) ?_ ?_ ?_
  ·decide
  ·simp only [tt, seval, Cur.cs]
  rintro r os ⟨w, c4, rfl, rfl, hw, iw⟩ hos
  simp only [tt, seval, Cur.cs]
  rw [pu_rem (by omega)]
  simp only [tt, seval]
  have e1 := wrap_id (n := x * 16777216) (by omega) (by omega)
  have e2 := wrap_id (n := y * 65536) (by omega) (by omega)
  have e3 := wrap_id (n := z * 256) (by omega) (by omega)
  have e4 := wrap_id (n := x * 16777216 + y * 65536) (by omega) (by omega)
  have e5 := wrap_id (n := x * 16777216 + y * 65536 + z * 256) (by omega) (by omega)
  have e6 := wrap_id (n := x * 16777216 + y * 65536 + z * 256 + w) (by omega) (by omega)
  rw [e1, e2, e3, e4, e5, e6]
  exact ⟨_, _, ⟨_, c4, rfl, rfl, ⟨Int.tmod_nonneg _ (by omega), fun h2 => Int.tmod_lt_of_pos _ h2⟩, iw⟩, end1 rfl rfl⟩
theorem l1New_d (bs : List Int) : ClN Tryz.prog 13 [.c (.sl bs.length (bs.flatMap brow) none)] fun cs => ∃ c : Cur, cs = c.cs ∧ 0 ≤ c.i := by
 refine clN_of_d follows_mixed Tryz.func13 rfl (by kernel_rfl) rfl ?_
 simp only [Tryz.f13, tt, seval]
 intro hln
 refine dLoop.intro (fun f L p => ∃ (i : Nat) (h : Int), f 4 = vi i ∧ f 3 = vi h ∧ L = [] ∧ p = none ∧ i ≤ bs.length)
  (fun f _ _ => (bs.length - ixS (f 4)).toNat) [] none ⟨SubO.nil _, PoSub.none _, ?_⟩ ?_
 ·simp only [tt, seval]
  exact ⟨0, _, rfl, rfl, by omega⟩
 ·rintro g L p ⟨i, h, h4, h3, rfl, rfl, hi⟩
  simp only [tt, seval] at h4 h3
  simp only [tt, seval, h4, h3]
  refine fun _ => And.intro (fun hlt => ?_) (fun hge => ?_)
  ·simp only [tt, seval, h4, h3]
   have hlt : i < bs.length := by simpa using hlt
   refine And.intro (fun h40 => ?_) (fun h40 => ?_)
   ·refine ⟨by omega, by omega, _, drop_row brow_len (List.getElem?_eq_getElem hlt), brow_ne _ _, ?_⟩
    simp only [tt, seval, h4, h3, brow_tk, brow]
    rw [wrS i (by omega)]
    exact ⟨[], none, SubO.nil _, PoSub.none _, ⟨i + 1, _, by simp, rfl, rfl, rfl, by omega⟩, by simp only [ixS]; omega⟩
   ·exact ⟨_, rfl, rfl, ⟨bs, 0, h⟩, rfl, Int.le_refl _⟩
  ·simp only [tt, seval, h4, h3]
   exact ⟨_, rfl, rfl, ⟨bs, 0, h⟩, rfl, Int.le_refl _⟩
theorem l1Once_d (c : Cur) (h0 : 0 ≤ c.i) (n : Int) : Cl Tryz.prog 31 [.c (.p 9000 0), vi n] [c.cs] (CuS fun r => ∃ b, r = vb b) := by
 refine cl_of_d follows_mixed false Tryz.func31 rfl (by kernel_rfl) ?_
 simp only [Tryz.f31, tt, seval]
 refine CallQ.intro (l1Below_d c h0 n) ?_ ?_ ?_
 ·decide
 ·simp only [tt, seval, Cur.cs]
 rintro r os ⟨x, c1, rfl, rfl, hx, i1⟩ hos
 simp only [tt, seval, Cur.cs]
 exact ⟨_, _, ⟨c1, ⟨_, rfl⟩, rfl, i1⟩, end1 rfl rfl⟩
theorem l1Pick_d (c : Cur) (h0 : 0 ≤ c.i) (ss : List ByteArray) (hne : 0 < ss.length) : Cl Tryz.prog 30 [.c (.p 9000 0), .c (.sl ss.length (ss.flatMap srow) none)] [c.cs] (CuS fun r => ∃ s ∈ ss, r = vs s) := by
 refine cl_of_d follows_mixed false Tryz.func30 rfl (by kernel_rfl) ?_
 simp only [Tryz.f30, tt, seval]
 intro hln
 refine CallQ.intro (l1Below_d c h0 ss.length) ?_ ?_ ?_
 ·decide
 ·simp only [tt, seval, Cur.cs]
 rintro r os ⟨x, c1, rfl, rfl, hx, i1⟩ hos
 simp only [tt, seval, Cur.cs]
 have hx2 := hx.2 (by omega)
 obtain ⟨k, rfl⟩ : ∃ k : Nat, x = k := ⟨x.toNat, by omega⟩
 have hk : k < ss.length := by omega
 refine ⟨by omega, by omega, _, drop_row srow_len (List.getElem?_eq_getElem hk), srow_ne _ _, ?_⟩
 simp only [tt, seval, srow_tk, srow]
 exact ⟨_, _, ⟨c1, ⟨_, List.getElem_mem hk, rfl⟩, rfl, i1⟩, end1 rfl rfl⟩
theorem l1PickInt_d (c : Cur) (h0 : 0 ≤ c.i) (ss : List Int) (hne : 0 < ss.length) : Cl Tryz.prog 56 [.c (.p 9000 0), .c (.sl ss.length (ss.flatMap irow) none)] [c.cs] (CuS fun r => ∃ s ∈ ss, r = vi s) := by
 refine cl_of_d follows_mixed false Tryz.func56 rfl (by kernel_rfl) ?_
 simp only [Tryz.f56, tt, seval]
 intro hln
 refine CallQ.intro (l1Below_d c h0 ss.length) ?_ ?_ ?_
 ·decide
 ·simp only [tt, seval, Cur.cs]
 rintro r os ⟨x, c1, rfl, rfl, hx, i1⟩ hos
 simp only [tt, seval, Cur.cs]
 have hx2 := hx.2 (by omega)
 obtain ⟨k, rfl⟩ : ∃ k : Nat, x = k := ⟨x.toNat, by omega⟩
 have hk : k < ss.length := by omega
 refine ⟨by omega, by omega, _, drop_row irow_len (List.getElem?_eq_getElem hk), irow_ne _ _, ?_⟩
 simp only [tt, seval, irow_tk, irow]
 exact ⟨_, _, ⟨c1, ⟨_, List.getElem_mem hk, rfl⟩, rfl, i1⟩, end1 rfl rfl⟩
def wrd (x : Int) : Prop := -9223372036854775808 ≤ x ∧ x ≤ 9223372036854775807
theorem l1Whole_d (c : Cur) (h0 : 0 ≤ c.i) : Cl Tryz.prog 29 [.c (.p 9000 0)] [c.cs] (CuS fun r => ∃ x, r = vi x ∧ wrd x) := by
 refine cl_of_d follows_mixed false Tryz.func29 rfl (by kernel_rfl) ?_
 simp only [Tryz.f29, tt, seval]
 refine CallQ.intro (l1Below_d c h0 3) ?_ ?_ ?_
 ·decide
 ·simp only [tt, seval, Cur.cs]
 rintro r os ⟨x, c1, rfl, rfl, hx, i1⟩ hos
 simp only [tt, seval, Cur.cs]
 refine And.intro (fun h => ?_) (fun h => And.intro (fun h2 => ?_) (fun h2 => ?_))
 ·skip
  refine callF [8] ?_
  simp only [tt, seval, Cur.cs, irow, List.length_cons, List.length_nil, List.flatMap_cons, List.flatMap_nil, lc]
  refine Call1.intro (l1PickInt_d c1 i1 [0, 1, -1, 63, 64, -64, -65, 127, 128, 16383, 16384, 9223372036854775807, -9223372036854775808, 4611686018427387904] (by decide)) ?_ ?_ ?_
  ·decide
  ·simp only [tt, seval, Cur.cs, irow, List.length_cons, List.length_nil, List.flatMap_cons, List.flatMap_nil, lc]
  rintro r os ⟨c2, ⟨s, hs, rfl⟩, rfl, i2⟩ hos
  simp only [tt, seval, Cur.cs, irow, List.length_cons, List.length_nil, List.flatMap_cons, List.flatMap_nil, lc]
  exact ⟨_, _, ⟨c2, ⟨_, rfl, (by decide : ∀ s ∈ ([0, 1, -1, 63, 64, -64, -65, 127, 128, 16383, 16384, 9223372036854775807, -9223372036854775808, 4611686018427387904] : List Int), -9223372036854775808 ≤ s ∧ s ≤ 9223372036854775807) s hs⟩, rfl, i2⟩, end1 rfl rfl⟩
 ·skip
  refine CallQ.intro (l1Below_d c1 i1 1000000) ?_ ?_ ?_
  ·decide
  ·simp only [tt, seval, Cur.cs]
  rintro r os ⟨y, c2, rfl, rfl, hy, i2⟩ hos
  simp only [tt, seval, Cur.cs]
  have := hy.2 (by omega)
  rw [wrap_id (n := y - 500000) (by omega) (by omega)]
  exact ⟨_, _, ⟨c2, ⟨_, rfl, by unfold wrd; omega⟩, rfl, i2⟩, end1 rfl rfl⟩
 ·skip
  refine CallQ.intro (l1Below_d c1 i1 20) ?_ ?_ ?_
  ·decide
  ·simp only [tt, seval, Cur.cs]
  rintro r os ⟨y, c2, rfl, rfl, hy, i2⟩ hos
  simp only [tt, seval, Cur.cs]
  have := hy.2 (by omega)
  exact ⟨_, _, ⟨c2, ⟨_, rfl, by unfold wrd; omega⟩, rfl, i2⟩, end1 rfl rfl⟩
theorem IntValue_d (n : Int) : Cl Tryz.prog 54 [vi n] [] fun r _ => r = .ag (csOf (Val.mk 1 n ⟨#[]⟩).row) := by
 rw [Val.row]
 refine cl_of_d follows_mixed false Tryz.func54 rfl (by kernel_rfl) ?_
 simp only [Tryz.f54, tt, seval]
 exact ⟨_, _, rfl, end0 rfl⟩
theorem dTextValue_d (s : ByteArray) : Cl Tryz.prog 52 [vs s] [] fun r _ => r = .ag (csOf (Val.mk 2 0 s).row) := by
 rw [Val.row]
 refine cl_of_d follows_mixed false Tryz.func52 rfl (by kernel_rfl) ?_
 simp only [Tryz.f52, tt, seval]
 exact ⟨_, _, rfl, end0 rfl⟩
theorem BoolValue_d (b : Bool) : Cl Tryz.prog 53 [vb b] [] fun r _ => r = .ag (csOf (Val.mk 3 (if b = true then 1 else 0) ⟨#[]⟩).row) := by
 rw [Val.row]
 refine cl_of_d follows_mixed false Tryz.func53 rfl (by kernel_rfl) ?_
 simp only [Tryz.f53, tt, seval]
 refine And.intro (fun h => ?_) (fun h => ?_)
 ·subst h; exact ⟨_, _, rfl, end0 rfl⟩
 ·subst h; exact ⟨_, _, rfl, end0 rfl⟩
def DrV (v : Val) : Prop := wrd v.num ∧ (v = ⟨0, 0, ⟨#[]⟩⟩ ∨ (v.kind = 1 ∧ v.text = ⟨#[]⟩) ∨ (v.kind = 2 ∧ v.num = 0 ∧ v.text.size ≤ 40) ∨ (v.kind = 3 ∧ (v.num = 0 ∨ v.num = 1) ∧ v.text = ⟨#[]⟩))
def VaR (P : Val → Prop) (r : S) : Prop := ∃ v : Val, r = .ag (csOf v.row) ∧ P v
theorem l5Right_d (c : Cur) (h0 : 0 ≤ c.i) : Cl Tryz.prog 27 [.c (.p 9000 0)] [c.cs] (CuS (VaR DrV)) := by
 refine cl_of_d follows_mixed false Tryz.func27 rfl (by kernel_rfl) ?_
 simp only [Tryz.f27, tt, seval]
 refine CallQ.intro (l1Below_d c h0 6) ?_ ?_ ?_
 ·decide
 ·simp only [tt, seval, Cur.cs]
 rintro r os ⟨x, c1, rfl, rfl, hx, i1⟩ hos
 simp only [tt, seval, Cur.cs]
 refine And.intro (fun h => ?_) (fun h => And.intro (fun h2 => ?_) (fun h2 => And.intro (fun h3 => ?_) (fun h3 => And.intro (fun h4 => ?_) (fun h4 => ?_))))
 ·exact ⟨_, _, ⟨c1, ⟨⟨0, 0, ⟨#[]⟩⟩, rfl, by unfold wrd; decide, .inl rfl⟩, rfl, i1⟩, end1 rfl rfl⟩
 ·skip
  refine callF [11] ?_
  simp only [tt, seval, Cur.cs, srow, List.length_cons, List.length_nil, List.flatMap_cons, List.flatMap_nil, lc]
  refine Call1.intro (l1Pick_d c1 i1 [⟨#[]⟩, ⟨#[97]⟩, ⟨#[98]⟩, ⟨#[105, 116, 39, 115]⟩, ⟨#[97, 98]⟩, ⟨#[255]⟩] (by decide)) ?_ ?_ ?_
  ·decide
  ·simp only [tt, seval, Cur.cs, srow, List.length_cons, List.length_nil, List.flatMap_cons, List.flatMap_nil, lc]
  rintro r os ⟨c2, ⟨s, hs, rfl⟩, rfl, ic2⟩ hos
  simp only [tt, seval, Cur.cs, srow, List.length_cons, List.length_nil, List.flatMap_cons, List.flatMap_nil, lc]
  refine cZ (dTextValue_d s) (by decide) ?_ ?_ <;> simp only [tt, seval, Val.row]
  exact ⟨_, _, ⟨c2, ⟨⟨2, 0, s⟩, rfl, (show wrd 0 by unfold wrd; decide), .inr (.inr (.inl ⟨rfl, rfl, (by decide : ∀ s ∈ [⟨#[]⟩, ⟨#[97]⟩, ⟨#[98]⟩, ⟨#[105, 116, 39, 115]⟩, ⟨#[97, 98]⟩, ⟨#[255]⟩], s.size ≤ 40) s hs⟩))⟩, rfl, ic2⟩, end1 rfl rfl⟩
 ·skip
  refine CallQ.intro (l1Once_d c1 i1 2) ?_ ?_ ?_
  ·decide
  ·simp only [tt, seval, Cur.cs]
  rintro r os ⟨c2, ⟨b, rfl⟩, rfl, i2⟩ hos
  simp only [tt, seval, Cur.cs]
  refine cZ (BoolValue_d b) (by decide) ?_ ?_ <;> simp only [tt, seval, Val.row]
  exact ⟨_, _, ⟨c2, ⟨⟨3, if b = true then 1 else 0, ⟨#[]⟩⟩, rfl, by unfold wrd; cases b <;> decide, .inr (.inr (.inr ⟨rfl, by cases b <;> decide, rfl⟩))⟩, rfl, i2⟩, end1 rfl rfl⟩
 ·skip
  refine CallQ.intro (l1Whole_d c1 i1) ?_ ?_ ?_
  ·decide
  ·simp only [tt, seval, Cur.cs]
  rintro r os ⟨c2, ⟨x, rfl, hx2⟩, rfl, i2⟩ hos
  simp only [tt, seval, Cur.cs]
  refine cZ (IntValue_d x) (by decide) ?_ ?_ <;> simp only [tt, seval, Val.row]
  exact ⟨_, _, ⟨c2, ⟨⟨1, x, ⟨#[]⟩⟩, rfl, hx2, .inr (.inl ⟨rfl, rfl⟩)⟩, rfl, i2⟩, end1 rfl rfl⟩
 ·skip
  refine CallQ.intro (l1Below_d c1 i1 7) ?_ ?_ ?_
  ·decide
  ·simp only [tt, seval, Cur.cs]
  rintro r os ⟨y, c2, rfl, rfl, hy, i2⟩ hos
  simp only [tt, seval, Cur.cs]
  have := hy.2 (by omega)
  rw [wrap_id (n := y - 2) (by omega) (by omega)]
  refine cZ (IntValue_d (y - 2)) (by decide) ?_ ?_ <;> simp only [tt, seval, Val.row]
  exact ⟨_, _, ⟨c2, ⟨⟨1, y - 2, ⟨#[]⟩⟩, rfl, (show wrd (y - 2) by unfold wrd; omega), .inr (.inl ⟨rfl, rfl⟩)⟩, rfl, i2⟩, end1 rfl rfl⟩
def valE (v : Val) : Expr := if v.kind = 1 ∧ v.num < 0 then mUn 16 (mLit ⟨1, -v.num, ⟨#[]⟩⟩) else mLit v
theorem okE_lit {v : Val} (h : litB v = true) : okE (mLit v) = true := by
 have e1 : dpE (mLit v) = 1 := by rw [dpE_eq]; rfl
 have e2 : ndE (mLit v) = 1 := by rw [ndE_eq]; rfl
 have e3 : fmE (mLit v) = true := by
  rw [fmE_eq]
  show (shapeB 1 0 false v z0 z0 0 0 && (([] : List Expr).all fmE && ([] : List Query).all (fmQ fmE))) = true
  simp [shapeB, okF, fmT, h, z0]
 unfold okE
 rw [e1, e2, e3]; rfl
theorem okE_neg {n : Int} (h : 0 ≤ n) : okE (mUn 16 (mLit ⟨1, n, ⟨#[]⟩⟩)) = true := by
 have hl : litB ⟨1, n, ⟨#[]⟩⟩ = true := by simp [litB, valOk, h]; exact Nat.zero_le _
 have f1 := okE_lit hl
 have e1 : dpE (mLit ⟨1, n, ⟨#[]⟩⟩) = 1 := by rw [dpE_eq]; rfl
 have e2 : ndE (mLit ⟨1, n, ⟨#[]⟩⟩) = 1 := by rw [ndE_eq]; rfl
 have e3 := okE_fm f1
 have g1 : dpE (mUn 16 (mLit ⟨1, n, ⟨#[]⟩⟩)) = 2 := by
  rw [dpE_eq]
  show 1 + maxL ([dpE (mLit ⟨1, n, ⟨#[]⟩⟩)] ++ []) = 2
  rw [e1]; rfl
 have g2 : ndE (mUn 16 (mLit ⟨1, n, ⟨#[]⟩⟩)) = 2 := by
  rw [ndE_eq]
  show 1 + ([ndE (mLit ⟨1, n, ⟨#[]⟩⟩)]).sum + 0 = 2
  rw [e2]; rfl
 have g3 : fmE (mUn 16 (mLit ⟨1, n, ⟨#[]⟩⟩)) = true := by
  rw [fmE_eq]
  show (shapeB 3 16 false zVal z0 z0 1 0 && ([mLit ⟨1, n, ⟨#[]⟩⟩].all fmE && true)) = true
  simp only [List.all_cons, List.all_nil, e3]
  simp [shapeB, okF, fmT, z0, zVal, zV]
 unfold okE
 rw [g1, g2, g3]; rfl
theorem rg_lit {v : Val} (h : -9223372036854775808 ≤ v.num ∧ v.num ≤ 9223372036854775807) : Rg (mLit v) := .mk h (fun _ h => by cases h) (fun _ h => by cases h) (fun _ h => by cases h)
theorem rg_neg {v : Val} (h : -9223372036854775808 ≤ v.num ∧ v.num ≤ 9223372036854775807) : Rg (mUn 16 (mLit v)) := .mk (by decide) (fun k hk => by rw [List.mem_singleton.1 hk]; exact rg_lit h) (fun _ h => by cases h) (fun _ h => by cases h)
theorem joinL_one (t : Tok) : joinL [t] 1 = (tokT t).data.toList := by
 have h : (0 : Nat) < [t].length := Nat.succ_pos 0
 rw [joinL_succ, jn_at _ h]
 simp [joinL]
theorem spaced_one {t : Tok} (h : okTok t = true) (hs : (tokT t).size ≤ 2000) : spacedB [t] = tokT t := by
 unfold spacedB
 rw [if_pos (by simp [h]), show [t].length = 1 from rfl, joinL_one, if_neg (by rw [size_toList]; omega)]
def ngT : Tok := ⟨5, ⟨#[45]⟩, 0⟩
theorem ng_ok : okTok ngT = true := by decide +kernel
theorem itoaB_neg {n : Int} (h : n < 0) : (itoaB n).data.toList = 45 :: (itoaB (-n)).data.toList := by
 show Lib.itoa n = 45 :: Lib.itoa (-n)
 unfold Lib.itoa
 rw [if_pos h, if_neg (by omega), show n.natAbs = (-n).toNat by omega]
theorem spaced_neg {n : Int} (h : n < 0) (h0 : -9223372036854775807 ≤ n) : spacedB [ngT, iT (-n)] = itoaB n := by
 have ho : okTok (iT (-n)) = true := (itoaB_num (n := -n) (by omega) (by omega)).1
 have t0 : tokT ngT = ⟨#[45]⟩ := by decide +kernel
 have t1 : tokT (iT (-n)) = itoaB (-n) := by
  unfold tokT
  rw [if_neg (by rw [ho]; simp)]
  rfl
 have hg : gapB ngT (iT (-n)) = false := by
  unfold gapB gapC
  rw [ng_ok, ho]
  have w1 : wordB ngT = false := by decide +kernel
  have q1 : quotB ngT = false := by decide +kernel
  rw [w1, q1]
  simp [ngT, gapS, iT]
 have j2 : joinL [ngT, iT (-n)] 2 = (itoaB n).data.toList := by
  have h0 : (0 : Nat) < [ngT, iT (-n)].length := Nat.succ_pos _
  have h1 : (1 : Nat) < [ngT, iT (-n)].length := Nat.lt_succ_self _
  rw [joinL_succ, joinL_succ, jn_at _ h0, jn_at _ h1, itoaB_neg h]
  simp [joinL, t0, t1, hg]
 have hl := itoaB_size (n := n) (by omega) (by omega)
 unfold spacedB
 rw [if_pos (by simp [ng_ok, ho]), show [ngT, iT (-n)].length = 2 from rfl, j2, if_neg (by rw [size_toList]; omega)]
theorem valT_printed {v : Val} (hok : valOk v = true) (hs : v.text.size ≤ 40) (h0 : v.kind = 1 → -9223372036854775807 ≤ v.num) (h1 : v.num ≤ 9223372036854775807) : spacedB (tkE false (valE v)) = valT v := by
 have hk : ¬ valOk v = false := by rw [hok]; simp
 unfold valE
 by_cases hn : v.kind = 1 ∧ v.num < 0
 ·rw [if_pos hn, tk_un, valT, if_neg hk, if_pos hn.1, ← spaced_neg hn.2 (h0 hn.1)]
  rw [wr, show lvE (mLit ⟨1, -v.num, ⟨#[]⟩⟩) = 9 from rfl, tk_lit]
  rfl
 rw [if_neg hn, tk_lit]
 unfold litT valT
 rw [if_neg hk]
 by_cases k1 : v.kind = 1
 ·rw [if_pos k1, if_pos k1]
  have ho : okTok (iT v.num) = true := (itoaB_num (n := v.num) (by omega) h1).1
  have t1 : tokT (iT v.num) = itoaB v.num := by
   unfold tokT
   rw [if_neg (by rw [ho]; simp)]
   rfl
  have hl := itoaB_size (n := v.num) (by omega) (by omega)
  rw [spaced_one ho (by rw [t1]; omega), t1]
 rw [if_neg k1, if_neg k1]
 by_cases k2 : v.kind = 2
 ·rw [if_pos k2, if_pos k2]
  have ho : okTok ⟨4, v.text, 0⟩ = true := by
   unfold okTok
   simp [hs]
  have t1 : tokT ⟨4, v.text, 0⟩ = quoteB 39 v.text := by
   unfold tokT
   rw [if_neg (by rw [ho]; simp)]
   rfl
  have hl : (quoteB 39 v.text).size ≤ 2000 := by
   have := quoteL_len 39 v.text.data.toList
   rw [size_toList] at this
   show (List.toArray _).size ≤ 2000
   rw [List.size_toArray, List.length_cons, List.length_append, List.length_singleton]
   omega
  rw [spaced_one ho (by rw [t1]; exact hl), t1]
 rw [if_neg k2, if_neg k2]
 by_cases k3 : v.kind = 3
 ·rw [if_pos k3, if_pos k3]
  split <;> decide +kernel
 rw [if_neg k3, if_neg k3]
 decide +kernel
theorem itoaB_pos {n : Int} : itoaB n ≠ ⟨#[]⟩ := fun h => by
 have h : (Lib.itoa n) = [] := by
  have := congrArg (fun s : ByteArray => s.data.toList) h
  exact this
 unfold Lib.itoa at h
 split at h
 ·cases h
 ·obtain ⟨b, r, e, _⟩ := decDigits_head n.toNat
  rw [e] at h; cases h
theorem valT_ne {v : Val} (hok : valOk v = true) : valT v ≠ ⟨#[]⟩ := by
 unfold valT
 rw [if_neg (by rw [hok]; simp)]
 split
 ·exact itoaB_pos
 split
 ·intro h
  have h : ((39 : UInt8) :: (quoteL 39 v.text.data.toList ++ [39])) = [] := congrArg (fun s : ByteArray => s.data.toList) h
  cases h
 split
 ·split <;> decide
 ·decide
theorem valE_ok {v : Val} (hok : valOk v = true) (hs : v.text.size ≤ 40) (h0 : -9223372036854775808 ≤ v.num) (h1 : v.num ≤ 9223372036854775807) (h2 : v.kind = 1 → -9223372036854775807 ≤ v.num) : okE (valE v) = true ∧ Rg (valE v) := by
 unfold valE
 split
 ·rename_i h
  have := h2 h.1
  exact ⟨okE_neg (by omega), rg_neg ⟨by show -9223372036854775808 ≤ -v.num; omega, by show -v.num ≤ 9223372036854775807; omega⟩⟩
 ·rename_i h
  refine ⟨okE_lit ?_, rg_lit ⟨h0, h1⟩⟩
  unfold litB
  rw [hok]
  simp only [Bool.true_and, Bool.and_eq_true, Bool.or_eq_true, decide_eq_true_eq]
  exact ⟨by omega, hs⟩
theorem valT_parsed {v : Val} (hok : valOk v = true) (hs : v.text.size ≤ 40) (h0 : -9223372036854775808 ≤ v.num) (h1 : v.num ≤ 9223372036854775807) (h2 : v.kind = 1 → -9223372036854775807 ≤ v.num) : parseExpr (valT v) = (valE v, (0, 0)) := by
 obtain ⟨h3, h4⟩ := valE_ok hok hs h0 h1 h2
 have e := valT_printed hok hs h2 h1
 rw [← e]
 exact parseExpr_printed false h3 h4 (by rw [e]; exact valT_ne hok)
def DrB (v : Val) : Prop := wrd v.num ∧ v.text.size ≤ 1000
def DG : ByteArray := ⟨#[48, 49, 50, 51, 52, 53, 54, 55, 56, 57]⟩
def txS (Lo : Ob) : Nat := match Go.Dv.look Lo 3 with | some (.str [_, _, .v (.string x)]) => x.size | _ => 0
theorem drb_of {v : Val} (h : DrV v) : wrd v.num ∧ v.text.size ≤ 40 := by
 obtain ⟨h1, h2⟩ := h
 refine ⟨h1, ?_⟩
 rcases h2 with rfl | ⟨_, h⟩ | ⟨_, _, h⟩ | ⟨_, _, h⟩
 ·exact Nat.zero_le _
 ·rw [h]; exact Nat.zero_le _
 ·exact h
 ·rw [h]; exact Nat.zero_le _
set_option maxHeartbeats 4000000 in
theorem l5Bent_d (c : Cur) (h0 : 0 ≤ c.i) : Cl Tryz.prog 12 [.c (.p 9000 0)] [c.cs] (CuS (VaR DrB)) := by
 refine cl_of_d follows_mixed false Tryz.func12 rfl (by kernel_rfl) ?_
 simp only [Tryz.f12, tt, seval]
 refine CallQ.intro (l5Right_d c h0) ?_ ?_ ?_
 ·decide
 ·simp only [tt, seval, Cur.cs, baE, Val.row]
 rintro r os ⟨c1, ⟨⟨k, n, x⟩, rfl, hv⟩, rfl, i1⟩ hos
 simp only [tt, seval, Cur.cs, baE, Val.row]
 obtain ⟨hw, hx⟩ := drb_of hv
 have hw : wrd n := hw
 have hx : x.size ≤ 40 := hx
 refine CallQ.intro (l1Below_d c1 i1 14) ?_ ?_ ?_
 ·decide
 ·simp only [tt, seval, Cur.cs, baE, Val.row]
 rintro r os ⟨y, c2, rfl, rfl, hy, i2⟩ hos
 simp only [tt, seval, Cur.cs, baE, Val.row]
 refine And.intro (fun h1 => ?_) (fun h1 => And.intro (fun h2 => ?_) (fun h2 => And.intro (fun h3 => ?_) (fun h3 => ?_)))
 ·try simp only [tt, seval, Cur.cs, baE, Val.row]
  refine CallQ.intro (l1Below_d c2 i2 6) ?_ ?_ ?_
  ·decide
  ·simp only [tt, seval, Cur.cs, baE, Val.row]
  rintro r os ⟨y2, c3, rfl, rfl, hy2, i3⟩ hos
  simp only [tt, seval, Cur.cs, baE, Val.row]
  refine ⟨.ag (csOf (Val.mk (IntKind.i64.wrap (y2 - 1)) n x).row), [Cur.cs c3], ⟨c3, ⟨⟨(IntKind.i64.wrap (y2 - 1)), n, x⟩, rfl, hw, (show x.size ≤ 1000 by omega)⟩, rfl, i3⟩, endOk ?_⟩
  simp only [tt, seval, Cur.cs, baE, Val.row]
 ·try simp only [tt, seval, Cur.cs, baE, Val.row]
  refine CallQ.intro (l1Whole_d c2 i2) ?_ ?_ ?_
  ·decide
  ·simp only [tt, seval, Cur.cs, baE, Val.row]
  rintro r os ⟨c3, ⟨m, rfl, hm⟩, rfl, i3⟩ hos
  simp only [tt, seval, Cur.cs, baE, Val.row]
  refine ⟨.ag (csOf (Val.mk k m x).row), [Cur.cs c3], ⟨c3, ⟨⟨k, m, x⟩, rfl, hm, (show x.size ≤ 1000 by omega)⟩, rfl, i3⟩, endOk ?_⟩
  simp only [tt, seval, Cur.cs, baE, Val.row]
 ·try simp only [tt, seval, Cur.cs, baE, Val.row]
  refine callF [22] ?_
  simp only [tt, seval, Cur.cs, baE, Val.row, srow, List.length_cons, List.length_nil, List.flatMap_cons, List.flatMap_nil, lc]
  refine Call1.intro (l1Pick_d c2 i2 [⟨#[120]⟩, ⟨#[]⟩, ⟨#[108, 111, 110, 103]⟩] (by decide)) ?_ ?_ ?_
  ·decide
  ·simp only [tt, seval, Cur.cs, baE, Val.row, srow, List.length_cons, List.length_nil, List.flatMap_cons, List.flatMap_nil, lc]
  rintro r os ⟨c3, ⟨s, hs, rfl⟩, rfl, i3⟩ hos
  simp only [tt, seval, Cur.cs, baE, Val.row, srow, List.length_cons, List.length_nil, List.flatMap_cons, List.flatMap_nil, lc]
  have hs2 := (by decide : ∀ w ∈ [⟨#[120]⟩, ⟨#[]⟩, ⟨#[108, 111, 110, 103]⟩], w.size ≤ 7) s hs
  try simp only [tt, seval, Cur.cs, baE, Val.row]
  refine dLoop.intro (fun f Lo p => ∃ (ce : Cur) (z : ByteArray), 0 ≤ ce.i ∧ z.size ≤ 1000 ∧ Lo = [(9000, .str (Cur.cs ce)), (3, .str [.v (.int .i64 k), .v (.int .i64 n), .v (.string z)]), (2, .str [.v (.int .i64 0), .v (.int .i64 0), .v (.string ByteArray.empty)])] ∧ p = none) (fun _ Lo _ => 1000 - txS Lo) [(9000, .str (Cur.cs c3)), (3, .str [.v (.int .i64 k), .v (.int .i64 n), .v (.string s)]), (2, .str [.v (.int .i64 0), .v (.int .i64 0), .v (.string ByteArray.empty)])] none ⟨by simp only [Cur.cs]; exact SubO.cons rfl (SubO.cons rfl (SubO.cons rfl (SubO.nil _))), PoSub.none _, ?_⟩ ?_
  ·exact ⟨c3, s, i3, by omega, rfl, rfl⟩
  ·rintro g Lo p ⟨ce, z, ic, hz, rfl, rfl⟩
   simp only [tt, seval, Cur.cs, baE, Val.row]
   refine CallQ.intro (l1Once_d ce ic 2) ?_ ?_ ?_
   ·decide
   ·simp only [tt, seval, Cur.cs, baE, Val.row]
   rintro r os ⟨cf, ⟨b, rfl⟩, rfl, ig⟩ hos
   simp only [tt, seval, Cur.cs, baE, Val.row]
   cases b
   ·try simp only [tt, seval, Cur.cs, baE, Val.row]
    refine ⟨.ag (csOf (Val.mk k n z).row), [Cur.cs cf], ⟨cf, ⟨⟨k, n, z⟩, rfl, hw, (show z.size ≤ 1000 by omega)⟩, rfl, ig⟩, endOk ?_⟩
    simp only [tt, seval, Cur.cs, baE, Val.row]
   ·try simp only [tt, seval, Cur.cs, baE, Val.row]
    refine fun _ => And.intro (fun hl => ?_) (fun hl => ?_)
    ·have hl : z.size < 400 := by omega
     try simp only [tt, seval, Cur.cs, baE, Val.row]
     rw [pu_sadd (by omega)]
     try simp only [tt, seval, Cur.cs, baE, Val.row]
     rw [pu_sadd (by rw [ByteArray.size_append]; show z.size + z.size + 10 ≤ _; omega)]
     try simp only [tt, seval, Cur.cs, baE, Val.row]
     have hz3 : (z ++ z ++ DG).size = 2 * z.size + 10 := by rw [ByteArray.size_append, ByteArray.size_append]; show z.size + z.size + 10 = _; omega
     refine ⟨[(9000, .str (Cur.cs cf)), (3, .str [.v (.int .i64 k), .v (.int .i64 n), .v (.string (z ++ z ++ DG))]), (2, .str [.v (.int .i64 0), .v (.int .i64 0), .v (.string ByteArray.empty)])], none, by simp only [Cur.cs]; exact SubO.cons rfl (SubO.cons rfl (SubO.cons rfl (SubO.nil _))), PoSub.none _, ⟨cf, z ++ z ++ DG, ig, by omega, rfl, rfl⟩, ?_⟩
     show 1000 - (z ++ z ++ DG).size < 1000 - z.size
     omega
    ·try simp only [tt, seval, Cur.cs, baE, Val.row]
     refine ⟨.ag (csOf (Val.mk k n z).row), [Cur.cs cf], ⟨cf, ⟨⟨k, n, z⟩, rfl, hw, (show z.size ≤ 1000 by omega)⟩, rfl, ig⟩, endOk ?_⟩
     simp only [tt, seval, Cur.cs, baE, Val.row]
 ·try simp only [tt, seval, Cur.cs, baE, Val.row]
  refine ⟨.ag (csOf (Val.mk k n x).row), [Cur.cs c2], ⟨c2, ⟨⟨k, n, x⟩, rfl, hw, (show x.size ≤ 1000 by omega)⟩, rfl, i2⟩, endOk ?_⟩
  simp only [tt, seval, Cur.cs, baE, Val.row]
theorem DrawValueText_d (bs : List Int) : Cl Tryz.prog 5 [.c (.sl bs.length (bs.flatMap brow) none)] [] fun r _ => VaR DrB r := by
 refine cl_of_d follows_mixed false Tryz.func5 rfl (by kernel_rfl) ?_
 simp only [Tryz.f5, tt, seval]
 refine callN (l1New_d bs) (by decide) ?_
 rintro cs ⟨c, rfl, h0⟩
 simp only [tt, seval, Cur.cs]
 refine CallQ.intro (l5Bent_d c h0) ?_ ?_ ?_
 ·decide
 ·simp only [tt, seval, Cur.cs, baE, Val.row]
 rintro r os ⟨c1, ⟨⟨k, n, x⟩, rfl, hv⟩, rfl, i1⟩ hos
 simp only [tt, seval, Cur.cs, baE, Val.row]
 exact ⟨_, _, ⟨⟨k, n, x⟩, rfl, hv⟩, end0 rfl⟩
theorem big_d (bs : List Int) : Cl Tryz.prog 4 [.c (.sl bs.length (bs.flatMap brow) none)] [] fun r _ => r = vb (decide ((1048576 : Int) < (bs.length : Int))) := by
 refine cl_of_d follows_mixed false Tryz.func4 rfl (by kernel_rfl) ?_
 simp only [Tryz.f4, tt, seval]
 refine fun _ => ?_
 exact ⟨_, _, rfl, end0 rfl⟩
end Go.Proofs.YtfddkbckoapmfaaGreatDoor
