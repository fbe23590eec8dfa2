/-
  Draws.
  Conditions: none.
-/
import Derived.Test.YtabhiapifcanoaaGreatDoorOTF2
set_option linter.unusedVariables false
set_option linter.unusedSimpArgs false
set_option linter.unusedSectionVars false
set_option linter.unnecessarySimpa false
set_option maxRecDepth 8000
namespace Go.Proofs.YtabhiapifcanoaaGreatDoor
open Go Go.Dv
open Go.Vc (D shrI xorI andI and255)
def brow (b : Int) : List D := [.lit (.int .u8 b)]
theorem brow_len (b : Int) : (brow b).length = 1 := rfl
theorem brow_tk (b : Int) (r : List D) : takeD 1 (brow b ++ r) = some (brow b) := takeD_row rfl
theorem brow_ne (b : Int) (r : List D) : brow b ++ r ≠ [] := fun h => by cases h
structure Cur where
 b : List Int
 i : Int
 h : Int
def Cur.cs (c : Cur) : List C := [.sl c.b.length (c.b.flatMap brow) none, .v (.int .i64 c.i), .v (.int .i64 c.h)]
def CuR (P : Int → Prop) (r : S) (os : List (List C)) : Prop := ∃ x c', r = vi x ∧ os = [Cur.cs c'] ∧ P x ∧ 0 ≤ c'.i
def CuS (P : S → Prop) (r : S) (os : List (List C)) : Prop := ∃ c' : Cur, P r ∧ os = [c'.cs] ∧ 0 ≤ c'.i
theorem l1Byte_d (c : Cur) (h0 : 0 ≤ c.i) : Cl Tryz.prog 60 [.c (.p 9000 0)] [c.cs] (CuR fun x => 0 ≤ x ∧ x ≤ 255) := by
 obtain ⟨bs, i, h⟩ := c
 have h0 : 0 ≤ i := h0
 rw [Cur.cs]
 refine cl_of_d follows_mixed false Tryz.func60 rfl (by kernel_rfl) ?_
 simp only [Tryz.f60, tt, seval]
 refine dDrawn.intro [] (pln [0, 2, 4, 6, 8, 10, 12, 14, 16, 18, 20, 22, 24]) (by kernel_rfl) ?_
 simp only [tt, seval]
 refine dDrawn.intro [] (pln [0, 2, 4, 6, 8, 10, 12, 14, 16, 18]) (by kernel_rfl) ?_
 simp only [tt, seval]
 intro hln
 refine And.intro (fun hlt => ?_) (fun hge => ?_)
 ·skip
  refine dDrawn.intro [] (pln [0, 2, 4, 6, 8, 10, 12, 14, 16, 18, 20, 22, 24, 26, 28]) (by kernel_rfl) ?_
  simp only [tt, seval]
  have hlt' : i.toNat < bs.length := by omega
  refine ⟨h0, hlt, _, drop_row brow_len (List.getElem?_eq_getElem hlt'), brow_ne _ _, ?_⟩
  simp only [tt, seval, brow_tk, brow]
  rw [wrap_id (n := i + 1) (by omega) (by omega)]
  exact ⟨_, _, ⟨_, ⟨bs, i + 1, _⟩, rfl, rfl, and255 _, by show (0 : Int) ≤ i + 1; omega⟩, end1 rfl rfl⟩
 ·skip
  exact ⟨_, _, ⟨_, ⟨bs, i, _⟩, rfl, rfl, and255 _, h0⟩, end1 rfl rfl⟩
theorem l1Below_d (c : Cur) (h0 : 0 ≤ c.i) (n : Int) : Cl Tryz.prog 28 [.c (.p 9000 0), vi n] [c.cs] (CuR fun x => 0 ≤ x ∧ (0 < n → x < n)) := by
 refine cl_of_d follows_mixed false Tryz.func28 rfl (by kernel_rfl) ?_
 simp only [Tryz.f28, tt, seval]
 refine And.intro (fun h => ?_) (fun h => And.intro (fun h1 => ?_) (fun h1 => ?_))
 ·exact ⟨_, _, ⟨0, c, rfl, rfl, ⟨by omega, by omega⟩, h0⟩, end1 rfl rfl⟩
 ·skip
  refine CallQ.intro (l1Byte_d c h0) ?_ ?_ ?_
  ·decide
  ·simp only [tt, seval, Cur.cs]
  rintro r os ⟨x, c1, rfl, rfl, hx, ix⟩ hos
  simp only [tt, seval, Cur.cs]
  rw [pu_rem (by omega)]
  simp only [tt, seval]
  exact ⟨_, _, ⟨_, c1, rfl, rfl, ⟨Int.tmod_nonneg _ hx.1, fun h2 => Int.tmod_lt_of_pos _ h2⟩, ix⟩, end1 rfl rfl⟩
 ·skip
  refine CallQ.intro (l1Byte_d c h0) ?_ ?_ ?_
  ·decide
  ·simp only [tt, seval, Cur.cs]
  rintro r os ⟨x, c1, rfl, rfl, hx, ix⟩ hos
  simp only [tt, seval, Cur.cs]
  refine CallQ.intro (l1Byte_d c1 ix) ?_ ?_ ?_
  ·decide
  ·simp only [tt, seval, Cur.cs]
  rintro r os ⟨y, c2, rfl, rfl, hy, iy⟩ hos
  simp only [tt, seval, Cur.cs]
  refine CallQ.intro (l1Byte_d c2 iy) ?_ ?_ ?_
  ·decide
  ·simp only [tt, seval, Cur.cs]
  rintro r os ⟨z, c3, rfl, rfl, hz, iz⟩ hos
  simp only [tt, seval, Cur.cs]
  refine CallQ.intro (l1Byte_d c3 iz) ?_ ?_ ?_
  ·decide
  ·simp only [tt, seval, Cur.cs]
  rintro r os ⟨w, c4, rfl, rfl, hw, iw⟩ hos
  simp only [tt, seval, Cur.cs]
  rw [pu_rem (by omega)]
  simp only [tt, seval]
  have e1 := wrap_id (n := x * 16777216) (by omega) (by omega)
  have e2 := wrap_id (n := y * 65536) (by omega) (by omega)
  have e3 := wrap_id (n := z * 256) (by omega) (by omega)
  have e4 := wrap_id (n := x * 16777216 + y * 65536) (by omega) (by omega)
  have e5 := wrap_id (n := x * 16777216 + y * 65536 + z * 256) (by omega) (by omega)
  have e6 := wrap_id (n := x * 16777216 + y * 65536 + z * 256 + w) (by omega) (by omega)
  rw [e1, e2, e3, e4, e5, e6]
  exact ⟨_, _, ⟨_, c4, rfl, rfl, ⟨Int.tmod_nonneg _ (by omega), fun h2 => Int.tmod_lt_of_pos _ h2⟩, iw⟩, end1 rfl rfl⟩
theorem l1New_d (bs : List Int) : ClN Tryz.prog 23 [.c (.sl bs.length (bs.flatMap brow) none)] fun cs => ∃ c : Cur, cs = c.cs ∧ 0 ≤ c.i := by
 refine clN_of_d follows_mixed Tryz.func23 rfl (by kernel_rfl) rfl ?_
 simp only [Tryz.f23, tt, seval]
 intro hln
 refine dLoop.intro (fun f L p => ∃ (i : Nat) (h : Int), f 4 = vi i ∧ f 3 = vi h ∧ L = [] ∧ p = none ∧ i ≤ bs.length)
  (fun f _ _ => (bs.length - ixS (f 4)).toNat) [] none ⟨SubO.nil _, PoSub.none _, ?_⟩ ?_
 ·simp only [tt, seval]
  exact ⟨0, _, rfl, rfl, by omega⟩
 ·rintro g L p ⟨i, h, h4, h3, rfl, rfl, hi⟩
  simp only [tt, seval] at h4 h3
  simp only [tt, seval, h4, h3]
  refine fun _ => And.intro (fun hlt => ?_) (fun hge => ?_)
  ·simp only [tt, seval, h4, h3]
   have hlt : i < bs.length := by simpa using hlt
   refine And.intro (fun h40 => ?_) (fun h40 => ?_)
   ·refine ⟨by omega, by omega, _, drop_row brow_len (List.getElem?_eq_getElem hlt), brow_ne _ _, ?_⟩
    simp only [tt, seval, h4, h3, brow_tk, brow]
    rw [wrS i (by omega)]
    exact ⟨[], none, SubO.nil _, PoSub.none _, ⟨i + 1, _, by simp, rfl, rfl, rfl, by omega⟩, by simp only [ixS]; omega⟩
   ·exact ⟨_, rfl, rfl, ⟨bs, 0, h⟩, rfl, Int.le_refl _⟩
  ·simp only [tt, seval, h4, h3]
   exact ⟨_, rfl, rfl, ⟨bs, 0, h⟩, rfl, Int.le_refl _⟩
theorem l1Once_d (c : Cur) (h0 : 0 ≤ c.i) (n : Int) : Cl Tryz.prog 24 [.c (.p 9000 0), vi n] [c.cs] (CuS fun r => ∃ b, r = vb b) := by
 refine cl_of_d follows_mixed false Tryz.func24 rfl (by kernel_rfl) ?_
 simp only [Tryz.f24, tt, seval]
 refine CallQ.intro (l1Below_d c h0 n) ?_ ?_ ?_
 ·decide
 ·simp only [tt, seval, Cur.cs]
 rintro r os ⟨x, c1, rfl, rfl, hx, i1⟩ hos
 simp only [tt, seval, Cur.cs]
 exact ⟨_, _, ⟨c1, ⟨_, rfl⟩, rfl, i1⟩, end1 rfl rfl⟩
theorem l1Pick_d (c : Cur) (h0 : 0 ≤ c.i) (ss : List ByteArray) (hne : 0 < ss.length) : Cl Tryz.prog 109 [.c (.p 9000 0), .c (.sl ss.length (ss.flatMap srow) none)] [c.cs] (CuS fun r => ∃ s ∈ ss, r = vs s) := by
 refine cl_of_d follows_mixed false Tryz.func109 rfl (by kernel_rfl) ?_
 simp only [Tryz.f109, tt, seval]
 intro hln
 refine CallQ.intro (l1Below_d c h0 ss.length) ?_ ?_ ?_
 ·decide
 ·simp only [tt, seval, Cur.cs]
 rintro r os ⟨x, c1, rfl, rfl, hx, i1⟩ hos
 simp only [tt, seval, Cur.cs]
 have hx2 := hx.2 (by omega)
 obtain ⟨k, rfl⟩ : ∃ k : Nat, x = k := ⟨x.toNat, by omega⟩
 have hk : k < ss.length := by omega
 refine ⟨by omega, by omega, _, drop_row srow_len (List.getElem?_eq_getElem hk), srow_ne _ _, ?_⟩
 simp only [tt, seval, srow_tk, srow]
 exact ⟨_, _, ⟨c1, ⟨_, List.getElem_mem hk, rfl⟩, rfl, i1⟩, end1 rfl rfl⟩
theorem l1PickInt_d (c : Cur) (h0 : 0 ≤ c.i) (ss : List Int) (hne : 0 < ss.length) : Cl Tryz.prog 99 [.c (.p 9000 0), .c (.sl ss.length (ss.flatMap irow) none)] [c.cs] (CuS fun r => ∃ s ∈ ss, r = vi s) := by
 refine cl_of_d follows_mixed false Tryz.func99 rfl (by kernel_rfl) ?_
 simp only [Tryz.f99, tt, seval]
 intro hln
 refine CallQ.intro (l1Below_d c h0 ss.length) ?_ ?_ ?_
 ·decide
 ·simp only [tt, seval, Cur.cs]
 rintro r os ⟨x, c1, rfl, rfl, hx, i1⟩ hos
 simp only [tt, seval, Cur.cs]
 have hx2 := hx.2 (by omega)
 obtain ⟨k, rfl⟩ : ∃ k : Nat, x = k := ⟨x.toNat, by omega⟩
 have hk : k < ss.length := by omega
 refine ⟨by omega, by omega, _, drop_row irow_len (List.getElem?_eq_getElem hk), irow_ne _ _, ?_⟩
 simp only [tt, seval, irow_tk, irow]
 exact ⟨_, _, ⟨c1, ⟨_, List.getElem_mem hk, rfl⟩, rfl, i1⟩, end1 rfl rfl⟩
def wrd (x : Int) : Prop := -9223372036854775808 ≤ x ∧ x ≤ 9223372036854775807
theorem l1Whole_d (c : Cur) (h0 : 0 ≤ c.i) : Cl Tryz.prog 158 [.c (.p 9000 0)] [c.cs] (CuS fun r => ∃ x, r = vi x ∧ wrd x) := by
 refine cl_of_d follows_mixed false Tryz.func158 rfl (by kernel_rfl) ?_
 simp only [Tryz.f158, tt, seval]
 refine CallQ.intro (l1Below_d c h0 3) ?_ ?_ ?_
 ·decide
 ·simp only [tt, seval, Cur.cs]
 rintro r os ⟨x, c1, rfl, rfl, hx, i1⟩ hos
 simp only [tt, seval, Cur.cs]
 refine And.intro (fun h => ?_) (fun h => And.intro (fun h2 => ?_) (fun h2 => ?_))
 ·skip
  refine callF [8] ?_
  simp only [tt, seval, Cur.cs, irow, List.length_cons, List.length_nil, List.flatMap_cons, List.flatMap_nil, lc]
  refine Call1.intro (l1PickInt_d c1 i1 [0, 1, -1, 63, 64, -64, -65, 127, 128, 16383, 16384, 9223372036854775807, -9223372036854775808, 4611686018427387904] (by decide)) ?_ ?_ ?_
  ·decide
  ·simp only [tt, seval, Cur.cs, irow, List.length_cons, List.length_nil, List.flatMap_cons, List.flatMap_nil, lc]
  rintro r os ⟨c2, ⟨s, hs, rfl⟩, rfl, i2⟩ hos
  simp only [tt, seval, Cur.cs, irow, List.length_cons, List.length_nil, List.flatMap_cons, List.flatMap_nil, lc]
  exact ⟨_, _, ⟨c2, ⟨_, rfl, (by decide : ∀ s ∈ ([0, 1, -1, 63, 64, -64, -65, 127, 128, 16383, 16384, 9223372036854775807, -9223372036854775808, 4611686018427387904] : List Int), -9223372036854775808 ≤ s ∧ s ≤ 9223372036854775807) s hs⟩, rfl, i2⟩, end1 rfl rfl⟩
 ·skip
  refine CallQ.intro (l1Below_d c1 i1 1000000) ?_ ?_ ?_
  ·decide
  ·simp only [tt, seval, Cur.cs]
  rintro r os ⟨y, c2, rfl, rfl, hy, i2⟩ hos
  simp only [tt, seval, Cur.cs]
  have := hy.2 (by omega)
  rw [wrap_id (n := y - 500000) (by omega) (by omega)]
  exact ⟨_, _, ⟨c2, ⟨_, rfl, by unfold wrd; omega⟩, rfl, i2⟩, end1 rfl rfl⟩
 ·skip
  refine CallQ.intro (l1Below_d c1 i1 20) ?_ ?_ ?_
  ·decide
  ·simp only [tt, seval, Cur.cs]
  rintro r os ⟨y, c2, rfl, rfl, hy, i2⟩ hos
  simp only [tt, seval, Cur.cs]
  have := hy.2 (by omega)
  exact ⟨_, _, ⟨c2, ⟨_, rfl, by unfold wrd; omega⟩, rfl, i2⟩, end1 rfl rfl⟩
theorem IntValue_d (n : Int) : Cl Tryz.prog 166 [vi n] [] fun r _ => r = .ag (csOf (Val.mk 1 n ⟨#[]⟩).row) := by
 rw [Val.row]
 refine cl_of_d follows_mixed false Tryz.func166 rfl (by kernel_rfl) ?_
 simp only [Tryz.f166, tt, seval]
 exact ⟨_, _, rfl, end0 rfl⟩
theorem dTextValue_d (s : ByteArray) : Cl Tryz.prog 122 [vs s] [] fun r _ => r = .ag (csOf (Val.mk 2 0 s).row) := by
 rw [Val.row]
 refine cl_of_d follows_mixed false Tryz.func122 rfl (by kernel_rfl) ?_
 simp only [Tryz.f122, tt, seval]
 exact ⟨_, _, rfl, end0 rfl⟩
theorem BoolValue_d (b : Bool) : Cl Tryz.prog 123 [vb b] [] fun r _ => r = .ag (csOf (Val.mk 3 (if b = true then 1 else 0) ⟨#[]⟩).row) := by
 rw [Val.row]
 refine cl_of_d follows_mixed false Tryz.func123 rfl (by kernel_rfl) ?_
 simp only [Tryz.f123, tt, seval]
 refine And.intro (fun h => ?_) (fun h => ?_)
 ·subst h; exact ⟨_, _, rfl, end0 rfl⟩
 ·subst h; exact ⟨_, _, rfl, end0 rfl⟩
def DrV (v : Val) : Prop := wrd v.num ∧ (v = ⟨0, 0, ⟨#[]⟩⟩ ∨ (v.kind = 1 ∧ v.text = ⟨#[]⟩) ∨ (v.kind = 2 ∧ v.num = 0 ∧ v.text.size ≤ 40) ∨ (v.kind = 3 ∧ (v.num = 0 ∨ v.num = 1) ∧ v.text = ⟨#[]⟩))
def VaR (P : Val → Prop) (r : S) : Prop := ∃ v : Val, r = .ag (csOf v.row) ∧ P v
theorem l5Right_d (c : Cur) (h0 : 0 ≤ c.i) : Cl Tryz.prog 111 [.c (.p 9000 0)] [c.cs] (CuS (VaR DrV)) := by
 refine cl_of_d follows_mixed false Tryz.func111 rfl (by kernel_rfl) ?_
 simp only [Tryz.f111, tt, seval]
 refine CallQ.intro (l1Below_d c h0 6) ?_ ?_ ?_
 ·decide
 ·simp only [tt, seval, Cur.cs]
 rintro r os ⟨x, c1, rfl, rfl, hx, i1⟩ hos
 simp only [tt, seval, Cur.cs]
 refine And.intro (fun h => ?_) (fun h => And.intro (fun h2 => ?_) (fun h2 => And.intro (fun h3 => ?_) (fun h3 => And.intro (fun h4 => ?_) (fun h4 => ?_))))
 ·exact ⟨_, _, ⟨c1, ⟨⟨0, 0, ⟨#[]⟩⟩, rfl, by unfold wrd; decide, .inl rfl⟩, rfl, i1⟩, end1 rfl rfl⟩
 ·skip
  refine callF [11] ?_
  simp only [tt, seval, Cur.cs, srow, List.length_cons, List.length_nil, List.flatMap_cons, List.flatMap_nil, lc]
  refine Call1.intro (l1Pick_d c1 i1 [⟨#[]⟩, ⟨#[97]⟩, ⟨#[98]⟩, ⟨#[105, 116, 39, 115]⟩, ⟨#[97, 98]⟩, ⟨#[255]⟩] (by decide)) ?_ ?_ ?_
  ·decide
  ·simp only [tt, seval, Cur.cs, srow, List.length_cons, List.length_nil, List.flatMap_cons, List.flatMap_nil, lc]
  rintro r os ⟨c2, ⟨s, hs, rfl⟩, rfl, ic2⟩ hos
  simp only [tt, seval, Cur.cs, srow, List.length_cons, List.length_nil, List.flatMap_cons, List.flatMap_nil, lc]
  refine cZ (dTextValue_d s) (by decide) ?_ ?_ <;> simp only [tt, seval, Val.row]
  exact ⟨_, _, ⟨c2, ⟨⟨2, 0, s⟩, rfl, (show wrd 0 by unfold wrd; decide), .inr (.inr (.inl ⟨rfl, rfl, (by decide : ∀ s ∈ [⟨#[]⟩, ⟨#[97]⟩, ⟨#[98]⟩, ⟨#[105, 116, 39, 115]⟩, ⟨#[97, 98]⟩, ⟨#[255]⟩], s.size ≤ 40) s hs⟩))⟩, rfl, ic2⟩, end1 rfl rfl⟩
 ·skip
  refine CallQ.intro (l1Once_d c1 i1 2) ?_ ?_ ?_
  ·decide
  ·simp only [tt, seval, Cur.cs]
  rintro r os ⟨c2, ⟨b, rfl⟩, rfl, i2⟩ hos
  simp only [tt, seval, Cur.cs]
  refine cZ (BoolValue_d b) (by decide) ?_ ?_ <;> simp only [tt, seval, Val.row]
  exact ⟨_, _, ⟨c2, ⟨⟨3, if b = true then 1 else 0, ⟨#[]⟩⟩, rfl, by unfold wrd; cases b <;> decide, .inr (.inr (.inr ⟨rfl, by cases b <;> decide, rfl⟩))⟩, rfl, i2⟩, end1 rfl rfl⟩
 ·skip
  refine CallQ.intro (l1Whole_d c1 i1) ?_ ?_ ?_
  ·decide
  ·simp only [tt, seval, Cur.cs]
  rintro r os ⟨c2, ⟨x, rfl, hx2⟩, rfl, i2⟩ hos
  simp only [tt, seval, Cur.cs]
  refine cZ (IntValue_d x) (by decide) ?_ ?_ <;> simp only [tt, seval, Val.row]
  exact ⟨_, _, ⟨c2, ⟨⟨1, x, ⟨#[]⟩⟩, rfl, hx2, .inr (.inl ⟨rfl, rfl⟩)⟩, rfl, i2⟩, end1 rfl rfl⟩
 ·skip
  refine CallQ.intro (l1Below_d c1 i1 7) ?_ ?_ ?_
  ·decide
  ·simp only [tt, seval, Cur.cs]
  rintro r os ⟨y, c2, rfl, rfl, hy, i2⟩ hos
  simp only [tt, seval, Cur.cs]
  have := hy.2 (by omega)
  rw [wrap_id (n := y - 2) (by omega) (by omega)]
  refine cZ (IntValue_d (y - 2)) (by decide) ?_ ?_ <;> simp only [tt, seval, Val.row]
  exact ⟨_, _, ⟨c2, ⟨⟨1, y - 2, ⟨#[]⟩⟩, rfl, (show wrd (y - 2) by unfold wrd; omega), .inr (.inl ⟨rfl, rfl⟩)⟩, rfl, i2⟩, end1 rfl rfl⟩
theorem l2Name_d (c : Cur) (h0 : 0 ≤ c.i) : Cl Tryz.prog 110 [.c (.p 9000 0)] [c.cs] (CuS fun r => ∃ s, r = vs s ∧ nameB s = true) := by
 refine cl_of_d follows_mixed false Tryz.func110 rfl (by kernel_rfl) ?_
 simp only [Tryz.f110, tt, seval]
 refine CallQ.intro (l1Once_d c h0 6) ?_ ?_ ?_
 ·decide
 ·simp only [tt, seval, Cur.cs]
 rintro r os ⟨c1, ⟨b, rfl⟩, rfl, i1⟩ hos
 simp only [tt, seval, Cur.cs]
 refine And.intro (fun hb => ?_) (fun hb => ?_)
 ·skip
  refine callF [6] ?_
  simp only [tt, seval, Cur.cs, srow, List.length_cons, List.length_nil, List.flatMap_cons, List.flatMap_nil, lc]
  refine Call1.intro (l1Pick_d c1 i1 [⟨#[97, 32, 98]⟩, ⟨#[102, 114, 111, 109]⟩, ⟨#[83, 101, 108, 101, 99, 116]⟩, ⟨#[49, 120]⟩, ⟨#[113, 34, 113]⟩, ⟨#[0]⟩, ⟨#[34]⟩, ⟨#[105, 116, 39, 115]⟩, ⟨#[120, 46, 121]⟩, ⟨#[45]⟩] (by decide)) ?_ ?_ ?_
  ·decide
  ·simp only [tt, seval, Cur.cs, srow, List.length_cons, List.length_nil, List.flatMap_cons, List.flatMap_nil, lc]
  rintro r os ⟨c2, ⟨s, hs, rfl⟩, rfl, ic2⟩ hos
  simp only [tt, seval, Cur.cs, srow, List.length_cons, List.length_nil, List.flatMap_cons, List.flatMap_nil, lc]
  exact ⟨_, _, ⟨c2, ⟨_, rfl, (by decide : ∀ s ∈ [⟨#[97, 32, 98]⟩, ⟨#[102, 114, 111, 109]⟩, ⟨#[83, 101, 108, 101, 99, 116]⟩, ⟨#[49, 120]⟩, ⟨#[113, 34, 113]⟩, ⟨#[0]⟩, ⟨#[34]⟩, ⟨#[105, 116, 39, 115]⟩, ⟨#[120, 46, 121]⟩, ⟨#[45]⟩], nameB s = true) s hs⟩, rfl, ic2⟩, end1 rfl rfl⟩
 ·skip
  refine callF [9] ?_
  simp only [tt, seval, Cur.cs, srow, List.length_cons, List.length_nil, List.flatMap_cons, List.flatMap_nil, lc]
  refine Call1.intro (l1Pick_d c1 i1 [⟨#[97]⟩, ⟨#[98]⟩, ⟨#[99]⟩, ⟨#[116]⟩, ⟨#[117]⟩, ⟨#[118]⟩, ⟨#[105, 100]⟩, ⟨#[110, 97, 109, 101]⟩, ⟨#[65]⟩, ⟨#[95, 120, 49]⟩] (by decide)) ?_ ?_ ?_
  ·decide
  ·simp only [tt, seval, Cur.cs, srow, List.length_cons, List.length_nil, List.flatMap_cons, List.flatMap_nil, lc]
  rintro r os ⟨c2, ⟨s, hs, rfl⟩, rfl, ic2⟩ hos
  simp only [tt, seval, Cur.cs, srow, List.length_cons, List.length_nil, List.flatMap_cons, List.flatMap_nil, lc]
  exact ⟨_, _, ⟨c2, ⟨_, rfl, (by decide : ∀ s ∈ [⟨#[97]⟩, ⟨#[98]⟩, ⟨#[99]⟩, ⟨#[116]⟩, ⟨#[117]⟩, ⟨#[118]⟩, ⟨#[105, 100]⟩, ⟨#[110, 97, 109, 101]⟩, ⟨#[65]⟩, ⟨#[95, 120, 49]⟩], nameB s = true) s hs⟩, rfl, ic2⟩, end1 rfl rfl⟩
theorem l7Value_d (c : Cur) (h0 : 0 ≤ c.i) : Cl Tryz.prog 64 [.c (.p 9000 0)] [c.cs] (CuS (VaR fun v => litB v = true ∧ v.num ≤ 9223372036854775807 ∧ -9223372036854775808 ≤ v.num)) := by
 refine cl_of_d follows_mixed false Tryz.func64 rfl (by kernel_rfl) ?_
 simp only [Tryz.f64, tt, seval]
 refine CallQ.intro (l5Right_d c h0) ?_ ?_ ?_
 ·decide
 ·simp only [tt, seval, Cur.cs, Val.row]
 rintro r os ⟨c1, ⟨⟨k, n, x⟩, rfl, hw, hv⟩, rfl, i1⟩ hos
 simp only [tt, seval, Cur.cs, Val.row]
 have hw : wrd n := hw
 have lit : ∀ n' : Int, (k = 1 → 0 ≤ n') → (k ≠ 1 → n' = n) → litB ⟨k, n', x⟩ = true := fun n' h1 h2 => by
  rcases hv with h | ⟨hk, hx⟩ | ⟨hk, hn, hx⟩ | ⟨hk, hn, hx⟩
  ·injection h with a b d
   subst a b d
   rw [h2 (by decide)]; decide
  ·have hk : k = 1 := hk
   have hx : x = ⟨#[]⟩ := hx
   subst hk hx
   have := h1 rfl
   simp [litB, valOk, this]
   exact Nat.zero_le _
  ·have hk : k = 2 := hk
   have hn0 : n = 0 := hn
   have hx0 : x.size ≤ 40 := hx
   subst hk
   rw [h2 (by decide), hn0]
   have : x.size ≤ 200 := by omega
   simp [litB, valOk, hx0]
   omega
  ·have hk : k = 3 := hk
   have hn : n = 0 ∨ n = 1 := hn
   have hx : x = ⟨#[]⟩ := hx
   subst hk hx
   rw [h2 (by decide)]
   rcases hn with rfl | rfl <;> decide
 by_cases hk : k = 1
 ·simp only [tt, seval, decide_eq_true hk]
  refine And.intro (fun hn => ?_) (fun hn => ?_)
  ·try simp only [tt, seval, Cur.cs]
   refine ⟨.ag (csOf (Val.mk k 9223372036854775807 x).row), [c1.cs], ⟨c1, ⟨⟨k, 9223372036854775807, x⟩, rfl, lit _ (fun _ => by decide) (fun h => absurd hk h), by show (9223372036854775807 : Int) ≤ _; omega, by show _ ≤ (9223372036854775807 : Int); omega⟩, rfl, i1⟩, endOk ?_⟩
   simp only [tt, seval, Val.row, Cur.cs]
  ·try simp only [tt, seval, Cur.cs]
   refine ⟨.ag (csOf (Val.mk k n x).row), [c1.cs], ⟨c1, ⟨⟨k, n, x⟩, rfl, lit _ (fun _ => by omega) (fun _ => rfl), hw.2, hw.1⟩, rfl, i1⟩, endOk ?_⟩
   simp only [tt, seval, Val.row, Cur.cs]
 ·simp only [tt, seval, decide_eq_false hk]
  refine ⟨.ag (csOf (Val.mk k n x).row), [c1.cs], ⟨c1, ⟨⟨k, n, x⟩, rfl, lit _ (fun h => absurd h hk) (fun _ => rfl), hw.2, hw.1⟩, rfl, i1⟩, endOk ?_⟩
  simp only [tt, seval, Val.row, Cur.cs]
theorem l3Sign_d (c : Cur) (h0 : 0 ≤ c.i) : Cl Tryz.prog 195 [.c (.p 9000 0)] [c.cs] (CuS fun r => ∃ s, r = vs s ∧ s.size ≤ 40) := by
 refine cl_of_d follows_mixed false Tryz.func195 rfl (by kernel_rfl) ?_
 simp only [Tryz.f195, tt, seval]
 refine callF [4] ?_
 simp only [tt, seval, Cur.cs, srow, List.length_cons, List.length_nil, List.flatMap_cons, List.flatMap_nil, lc]
 refine Call1.intro (l1Pick_d c h0 [⟨#[40]⟩, ⟨#[41]⟩, ⟨#[44]⟩, ⟨#[46]⟩, ⟨#[42]⟩, ⟨#[43]⟩, ⟨#[45]⟩, ⟨#[47]⟩, ⟨#[37]⟩, ⟨#[61]⟩, ⟨#[60, 62]⟩, ⟨#[60]⟩, ⟨#[60, 61]⟩, ⟨#[62]⟩, ⟨#[62, 61]⟩, ⟨#[124, 124]⟩] (by decide)) ?_ ?_ ?_
 ·decide
 ·simp only [tt, seval, Cur.cs, srow, List.length_cons, List.length_nil, List.flatMap_cons, List.flatMap_nil, lc]
 rintro r os ⟨c2, ⟨s, hs, rfl⟩, rfl, ic2⟩ hos
 simp only [tt, seval, Cur.cs, srow, List.length_cons, List.length_nil, List.flatMap_cons, List.flatMap_nil, lc]
 exact ⟨_, _, ⟨c2, ⟨_, rfl, (by decide : ∀ s ∈ [⟨#[40]⟩, ⟨#[41]⟩, ⟨#[44]⟩, ⟨#[46]⟩, ⟨#[42]⟩, ⟨#[43]⟩, ⟨#[45]⟩, ⟨#[47]⟩, ⟨#[37]⟩, ⟨#[61]⟩, ⟨#[60, 62]⟩, ⟨#[60]⟩, ⟨#[60, 61]⟩, ⟨#[62]⟩, ⟨#[62, 61]⟩, ⟨#[124, 124]⟩], s.size ≤ 40) s hs⟩, rfl, ic2⟩, end1 rfl rfl⟩
theorem l1MaxI_d (a b : Int) (h0 : wrd a) (h1 : wrd b) : Cl Tryz.prog 86 [vi a, vi b] [] fun r _ => ∃ x, r = vi x ∧ wrd x := by
 refine cl_of_d follows_mixed false Tryz.func86 rfl (by kernel_rfl) ?_
 simp only [Tryz.f86, tt, seval]
 refine And.intro (fun h => ?_) (fun h => ?_)
 ·exact ⟨_, _, ⟨_, rfl, h0⟩, end0 rfl⟩
 ·exact ⟨_, _, ⟨_, rfl, h1⟩, end0 rfl⟩
def TkR (r : S) : Prop := ∃ t : Tok, r = .ag (csOf t.row) ∧ t.text.size ≤ 100
theorem words_small : ∀ s ∈ words, s.size ≤ 100 := by decide
set_option maxHeartbeats 4000000 in
theorem l3Token_d (c : Cur) (h0 : 0 ≤ c.i) : Cl Tryz.prog 165 [.c (.p 9000 0)] [c.cs] (CuS TkR) := by
 refine cl_of_d follows_mixed false Tryz.func165 rfl (by kernel_rfl) ?_
 simp only [Tryz.f165, tt, seval]
 refine CallQ.intro (l1Below_d c h0 6) ?_ ?_ ?_
 ·decide
 ·simp only [tt, seval, Cur.cs, baE, Tok.row]
 rintro r os ⟨x, c1, rfl, rfl, hx, i1⟩ hos
 simp only [tt, seval, Cur.cs, baE, Tok.row]
 refine And.intro (fun hx0 => ?_) (fun hx0 => And.intro (fun hx1 => ?_) (fun hx1 => And.intro (fun hx2 => ?_) (fun hx2 => And.intro (fun hx3 => ?_) (fun hx3 => ?_))))
 ·try simp only [tt, seval]
  refine cZ (l2Words_d) (by decide) ?_ ?_ <;> simp only [tt, seval, Cur.cs, baE, Tok.row]
  refine CallQ.intro (l1Below_d c1 i1 28) ?_ ?_ ?_
  ·decide
  ·simp only [tt, seval, Cur.cs, baE, Tok.row]
  rintro r os ⟨y, c2, rfl, rfl, hy, i2⟩ hos
  simp only [tt, seval, Cur.cs, baE, Tok.row]
  have hy2 := hy.2 (by omega)
  obtain ⟨k, hk⟩ : ∃ k : Nat, (1 : Int) + y = k := ⟨((1 : Int) + y).toNat, by omega⟩
  rw [wrap_id (n := (1 : Int) + y) (by omega) (by omega), hk]
  have hlt : k < words.length := by show _ < 29; omega
  refine ⟨by omega, by omega, _, drop_row srow_len (List.getElem?_eq_getElem hlt), srow_ne _ _, ?_⟩
  simp only [tt, seval, srow_tk, srow, Cur.cs, baE, Tok.row]
  refine ⟨.ag (csOf (Tok.mk 1 words[k] 0).row), [c2.cs], ⟨c2, ⟨_, rfl, words_small _ (List.getElem_mem hlt)⟩, rfl, i2⟩, endOk ?_⟩
  simp only [tt, seval, Cur.cs, baE, Tok.row]
 ·try simp only [tt, seval]
  refine CallQ.intro (l2Name_d c1 i1) ?_ ?_ ?_
  ·decide
  ·simp only [tt, seval, Cur.cs, baE, Tok.row]
  rintro r os ⟨c2, ⟨s, rfl, hs⟩, rfl, i2⟩ hos
  simp only [tt, seval, Cur.cs, baE, Tok.row]
  refine ⟨.ag (csOf (Tok.mk 2 s 0).row), [c2.cs], ⟨c2, ⟨_, rfl, by have : s.size ≤ 20 := by { simp only [nameB, decide_eq_true_eq] at hs; omega }; show s.size ≤ 100; omega⟩, rfl, i2⟩, endOk ?_⟩
  simp only [tt, seval, Cur.cs, baE, Tok.row]
 ·try simp only [tt, seval]
  refine CallQ.intro (l1Whole_d c1 i1) ?_ ?_ ?_
  ·decide
  ·simp only [tt, seval, Cur.cs, baE, Tok.row]
  rintro r os ⟨c2, ⟨w, rfl, hw⟩, rfl, i2⟩ hos
  simp only [tt, seval, Cur.cs, baE, Tok.row]
  refine call0 (l1MaxI_d 0 w (by unfold wrd; decide) hw) ?_ ?_ ?_
  ·decide
  ·simp only [tt, seval, Cur.cs, baE, Tok.row]
  rintro r ⟨z, rfl, hz⟩
  simp only [tt, seval, Cur.cs, baE, Tok.row]
  refine cZ (Digits_d z hz.1 hz.2) (by decide) ?_ ?_ <;> simp only [tt, seval, Cur.cs, baE, Tok.row]
  refine ⟨.ag (csOf (Tok.mk 3 (itoaB z) 0).row), [c2.cs], ⟨c2, ⟨_, rfl, Nat.le_trans (itoaB_small hz.1 hz.2) (by decide)⟩, rfl, i2⟩, endOk ?_⟩
  simp only [tt, seval, Cur.cs, baE, Tok.row]
 ·try simp only [tt, seval]
  refine callF [29] ?_
  simp only [tt, seval, Cur.cs, baE, Tok.row, srow, List.length_cons, List.length_nil, List.flatMap_cons, List.flatMap_nil, lc]
  refine Call1.intro (l1Pick_d c1 i1 [⟨#[]⟩, ⟨#[120]⟩, ⟨#[105, 116, 39, 115]⟩, ⟨#[39, 39]⟩, ⟨#[116, 119, 111, 32, 119, 111, 114, 100, 115]⟩, ⟨#[34]⟩, ⟨#[45, 45]⟩, ⟨#[0, 255]⟩] (by decide)) ?_ ?_ ?_
  ·decide
  ·simp only [tt, seval, Cur.cs, baE, Tok.row, srow, List.length_cons, List.length_nil, List.flatMap_cons, List.flatMap_nil, lc]
  rintro r os ⟨c2, ⟨s, hs, rfl⟩, rfl, ic2⟩ hos
  simp only [tt, seval, Cur.cs, baE, Tok.row, srow, List.length_cons, List.length_nil, List.flatMap_cons, List.flatMap_nil, lc]
  refine ⟨.ag (csOf (Tok.mk 4 s 0).row), [c2.cs], ⟨c2, ⟨_, rfl, (by decide : ∀ s ∈ [⟨#[]⟩, ⟨#[120]⟩, ⟨#[105, 116, 39, 115]⟩, ⟨#[39, 39]⟩, ⟨#[116, 119, 111, 32, 119, 111, 114, 100, 115]⟩, ⟨#[34]⟩, ⟨#[45, 45]⟩, ⟨#[0, 255]⟩], s.size ≤ 100) s hs⟩, rfl, ic2⟩, endOk ?_⟩
  simp only [tt, seval, Cur.cs, baE, Tok.row]
 ·try simp only [tt, seval]
  refine CallQ.intro (l3Sign_d c1 i1) ?_ ?_ ?_
  ·decide
  ·simp only [tt, seval, Cur.cs, baE, Tok.row]
  rintro r os ⟨c2, ⟨s, rfl, hs⟩, rfl, i2⟩ hos
  simp only [tt, seval, Cur.cs, baE, Tok.row]
  refine ⟨.ag (csOf (Tok.mk 5 s 0).row), [c2.cs], ⟨c2, ⟨_, rfl, Nat.le_trans hs (by decide)⟩, rfl, i2⟩, endOk ?_⟩
  simp only [tt, seval, Cur.cs, baE, Tok.row]
set_option maxHeartbeats 4000000 in
theorem l3Bent_d (c : Cur) (h0 : 0 ≤ c.i) : Cl Tryz.prog 108 [.c (.p 9000 0)] [c.cs] (CuS TkR) := by
 refine cl_of_d follows_mixed false Tryz.func108 rfl (by kernel_rfl) ?_
 simp only [Tryz.f108, tt, seval]
 refine CallQ.intro (l3Token_d c h0) ?_ ?_ ?_
 ·decide
 ·simp only [tt, seval, Cur.cs, baE, Tok.row]
 rintro r os ⟨c1, ⟨⟨k, s, a⟩, rfl, hs⟩, rfl, i1⟩ hos
 simp only [tt, seval, Cur.cs, baE, Tok.row]
 have hs : s.size ≤ 100 := hs
 refine CallQ.intro (l1Below_d c1 i1 10) ?_ ?_ ?_
 ·decide
 ·simp only [tt, seval, Cur.cs, baE, Tok.row]
 rintro r os ⟨x, c2, rfl, rfl, hx, i2⟩ hos
 simp only [tt, seval, Cur.cs, baE, Tok.row]
 refine And.intro (fun hx0 => ?_) (fun hx0 => And.intro (fun hx1 => ?_) (fun hx1 => And.intro (fun hx2 => ?_) (fun hx2 => ?_)))
 ·try simp only [tt, seval]
  refine CallQ.intro (l1Below_d c2 i2 7) ?_ ?_ ?_
  ·decide
  ·simp only [tt, seval, Cur.cs, baE, Tok.row]
  rintro r os ⟨y, c3, rfl, rfl, hy, i3⟩ hos
  simp only [tt, seval, Cur.cs, baE, Tok.row]
  refine ⟨.ag (csOf (Tok.mk y s a).row), [c3.cs], ⟨c3, ⟨_, rfl, hs⟩, rfl, i3⟩, endOk ?_⟩
  simp only [tt, seval, Cur.cs, baE, Tok.row]
 ·try simp only [tt, seval]
  refine callF [16] ?_
  simp only [tt, seval, Cur.cs, baE, Tok.row, srow, List.length_cons, List.length_nil, List.flatMap_cons, List.flatMap_nil, lc]
  refine Call1.intro (l1Pick_d c2 i2 [⟨#[]⟩, ⟨#[115, 101, 108, 101, 99, 116]⟩, ⟨#[83, 69, 76, 69, 67, 84, 83]⟩, ⟨#[48, 49]⟩, ⟨#[57, 50, 50, 51, 51, 55, 50, 48, 51, 54, 56, 53, 52, 55, 55, 53, 56, 48, 56]⟩, ⟨#[61, 62]⟩, ⟨#[124]⟩, ⟨#[97, 98, 99, 100, 101, 102, 103, 104, 105, 106, 107, 108, 109, 110, 111, 112, 113, 114, 115, 116, 117]⟩, ⟨#[49, 50, 51, 52, 53, 54, 55, 56, 57, 48, 49, 50, 51, 52, 53, 54, 55, 56, 57, 48, 49, 50, 51, 52, 53, 54, 55, 56, 57, 48, 49, 50, 51, 52, 53, 54, 55, 56, 57, 48, 49]⟩] (by decide)) ?_ ?_ ?_
  ·decide
  ·simp only [tt, seval, Cur.cs, baE, Tok.row, srow, List.length_cons, List.length_nil, List.flatMap_cons, List.flatMap_nil, lc]
  rintro r os ⟨c3, ⟨s2, hs2, rfl⟩, rfl, ic3⟩ hos
  simp only [tt, seval, Cur.cs, baE, Tok.row, srow, List.length_cons, List.length_nil, List.flatMap_cons, List.flatMap_nil, lc]
  refine ⟨.ag (csOf (Tok.mk k s2 a).row), [c3.cs], ⟨c3, ⟨_, rfl, (by decide : ∀ s ∈ [⟨#[]⟩, ⟨#[115, 101, 108, 101, 99, 116]⟩, ⟨#[83, 69, 76, 69, 67, 84, 83]⟩, ⟨#[48, 49]⟩, ⟨#[57, 50, 50, 51, 51, 55, 50, 48, 51, 54, 56, 53, 52, 55, 55, 53, 56, 48, 56]⟩, ⟨#[61, 62]⟩, ⟨#[124]⟩, ⟨#[97, 98, 99, 100, 101, 102, 103, 104, 105, 106, 107, 108, 109, 110, 111, 112, 113, 114, 115, 116, 117]⟩, ⟨#[49, 50, 51, 52, 53, 54, 55, 56, 57, 48, 49, 50, 51, 52, 53, 54, 55, 56, 57, 48, 49, 50, 51, 52, 53, 54, 55, 56, 57, 48, 49, 50, 51, 52, 53, 54, 55, 56, 57, 48, 49]⟩], s.size ≤ 100) s2 hs2⟩, rfl, ic3⟩, endOk ?_⟩
  simp only [tt, seval, Cur.cs, baE, Tok.row]
 ·try simp only [tt, seval]
  refine CallQ.intro (l1Whole_d c2 i2) ?_ ?_ ?_
  ·decide
  ·simp only [tt, seval, Cur.cs, baE, Tok.row]
  rintro r os ⟨c3, ⟨w, rfl, hw⟩, rfl, i3⟩ hos
  simp only [tt, seval, Cur.cs, baE, Tok.row]
  refine ⟨.ag (csOf (Tok.mk k s w).row), [c3.cs], ⟨c3, ⟨_, rfl, hs⟩, rfl, i3⟩, endOk ?_⟩
  simp only [tt, seval, Cur.cs, baE, Tok.row]
 ·try simp only [tt, seval]
  refine ⟨.ag (csOf (Tok.mk k s a).row), [c2.cs], ⟨c2, ⟨_, rfl, hs⟩, rfl, i2⟩, endOk ?_⟩
  simp only [tt, seval, Cur.cs, baE, Tok.row]
theorem take_rows {α : Type} {row : α → List D} {sz : Nat} (hsz : ∀ e, (row e).length = sz) : ∀ (es : List α) (k : Nat), (es.flatMap row).take (k * sz) = (es.take k).flatMap row
 | [], k => by simp
 | e :: es, 0 => by simp
 | e :: es, k + 1 => by
  rw [List.flatMap_cons, List.take_succ_cons, List.flatMap_cons, List.take_append, hsz, Nat.succ_mul, Nat.add_sub_cancel, take_rows hsz es k, List.take_of_length_le (by rw [hsz]; omega)]
theorem drop_rows {α : Type} {row : α → List D} {sz : Nat} (hsz : ∀ e, (row e).length = sz) : ∀ (es : List α) (k : Nat), (es.flatMap row).drop (k * sz) = (es.drop k).flatMap row
 | [], k => by simp
 | e :: es, 0 => by simp
 | e :: es, k + 1 => by
  rw [List.flatMap_cons, List.drop_succ_cons, List.drop_append, hsz, Nat.succ_mul, Nat.add_sub_cancel, drop_rows hsz es k, List.drop_of_length_le (by rw [hsz]; omega), List.nil_append]
def TlR (n : Nat) (r : S) : Prop := ∃ l : List Tok, r = .c (.sl (l).length ((l).flatMap Tok.row) none) ∧ l.length ≤ n ∧ ∀ t ∈ l, t.text.size ≤ 100
set_option maxHeartbeats 4000000 in
theorem l12Turned_d (L : List Tok) (hL : L.length ≤ 900000) (hT : ∀ t ∈ L, t.text.size ≤ 100) (c : Cur) (h0 : 0 ≤ c.i) : Cl Tryz.prog 62 [.c (.p 9000 0), .c (.sl (L).length ((L).flatMap Tok.row) none)] [c.cs] (CuS (TlR (L.length + 1))) := by
 refine cl_of_d follows_mixed false Tryz.func62 rfl (by kernel_rfl) ?_
 simp only [Tryz.f62, tt, seval]
 refine ⟨by kernel_rfl, flatMap_len Tok.row_len L, ⟨by simp only [maxLen]; omega, by omega⟩, fun _ => ?_⟩
 rw [Nat.zero_add, wrap_id (n := (L.length : Int) + 1) (by omega) (by omega)]
 refine CallQ.intro (l1Below_d c h0 ((L.length : Int) + 1)) ?_ ?_ ?_
 ·decide
 ·simp only [tt, seval, Cur.cs, baE, Tok.row]
 rintro r os ⟨k0, c1, rfl, rfl, hk0, i1⟩ hos
 simp only [tt, seval, Cur.cs, baE, Tok.row]
 have hk1 := hk0.2 (by omega)
 obtain ⟨k, rfl⟩ : ∃ k : Nat, k0 = k := ⟨k0.toNat, by omega⟩
 have hk : k ≤ L.length := by omega
 refine CallQ.intro (l1Below_d c1 i1 7) ?_ ?_ ?_
 ·decide
 ·simp only [tt, seval, Cur.cs, baE, Tok.row]
 rintro r os ⟨x, c2, rfl, rfl, hx, i2⟩ hos
 simp only [tt, seval, Cur.cs, baE, Tok.row]
 refine And.intro (fun hx0 => ?_) (fun hx0 => And.intro (fun hx1 => ?_) (fun hx1 => And.intro (fun hx2 => ?_) (fun hx2 => And.intro (fun hx3 => ?_) (fun hx3 => ?_))))
 ·skip
  refine ⟨by omega, by omega, ?_⟩
  have e1 : ((k : Int) - 0).toNat = k := by omega
  have e2 : (L.take k).length = k := by rw [List.length_take]; omega
  rw [e1, take_rows Tok.row_len]
  refine ⟨.c (.sl k ((L.take k).flatMap Tok.row) none), [c2.cs], ⟨c2, ⟨L.take k, by rw [e2], by rw [e2]; omega, fun t h => hT t (List.mem_of_mem_take h)⟩, rfl, i2⟩, endOk ?_⟩
  simp only [tt, seval, Cur.cs]
 ·skip
  have e1 : ((k : Int) - 0).toNat = k := by omega
  have e5 : ((L.length : Int) - (k : Int)).toNat = L.length - k := by omega
  have e6 : ((k : Int)).toNat = k := by omega
  have e7 : (L.drop k).take (L.length - k) = L.drop k := List.take_of_length_le (by rw [List.length_drop]; exact Nat.le_refl _)
  have htl : (L.take k).length = k := by rw [List.length_take]; omega
  refine dDrawn.intro [30] (pln [2, 4, 6, 10, 18, 20, 22, 1, 9, 13, 15, 17, 25, 26]) (by kernel_rfl) ?_
  simp only [tt, seval]
  simp only [e1, e5, e6, take_rows Tok.row_len, drop_rows Tok.row_len, e7]
  refine ⟨by omega, by omega, by omega, by omega, Int.le_refl _, by kernel_rfl, by rw [flatMap_len Tok.row_len, htl], ⟨by simp only [maxLen]; omega, by omega⟩, ?_⟩
  refine CallQ.intro (l3Bent_d c2 i2) ?_ ?_ ?_
  ·decide
  ·simp only [tt, seval, Cur.cs, baE, Tok.row, e1, e5, e6]
   try decide
  rintro r os ⟨c3, ⟨⟨tk, ts, ta⟩, rfl, hts⟩, rfl, i3⟩ hos
  simp only [tt, seval, Cur.cs, baE, Tok.row, e1, e5, e6]
  try simp only [e1, e5, e6, take_rows Tok.row_len, drop_rows Tok.row_len, e7]
  refine ⟨by kernel_rfl, ⟨by simp only [maxLen]; omega, by omega⟩, by kernel_rfl, by rw [flatMap_len Tok.row_len, List.length_drop], ⟨by simp only [maxLen]; omega, by omega⟩, ?_⟩
  obtain ⟨l, hl⟩ : ∃ l, l = L.take k ++ [(⟨tk, ts, ta⟩ : Tok)] ++ L.drop k := ⟨_, rfl⟩
  have hll : l.length = 0 + k + 1 + (L.length - k) := by rw [hl, List.length_append, List.length_append, htl, List.length_drop, List.length_singleton]; omega
  have hlr : l.flatMap Tok.row = (L.take k).flatMap Tok.row ++ [D.lit (.int .i64 tk), D.lit (.string ts), D.lit (.int .i64 ta)] ++ (L.drop k).flatMap Tok.row := by rw [hl, List.flatMap_append, List.flatMap_append]; rfl
  rw [← hll, ← hlr]
  refine ⟨.c (.sl l.length (l.flatMap Tok.row) none), [c3.cs], ⟨c3, ⟨l, rfl, by omega, fun t h => by
   rw [hl] at h
   rcases List.mem_append.1 h with h | h
   ·rcases List.mem_append.1 h with h | h
    ·exact hT t (List.mem_of_mem_take h)
    ·rw [List.mem_singleton.1 h]; exact hts
   ·exact hT t (List.mem_of_mem_drop h)⟩, rfl, i3⟩, endOk ?_⟩
  simp only [tt, seval, Cur.cs]
 ·refine fun _ => And.intro (fun hlt => ?_) (fun hge => ?_)
  ·have hlt : k < L.length := by omega
   have e1 : ((k : Int) - 0).toNat = k := by omega
   have e3 : IntKind.i64.wrap ((k : Int) + 1) = (k : Int) + 1 := wrap_id (by omega) (by omega)
   have e4 : ((k : Int) + 1).toNat = k + 1 := by omega
   have e5 : ((L.length : Int) - ((k : Int) + 1)).toNat = L.length - (k + 1) := by omega
   have e7 : (L.drop (k + 1)).take (L.length - (k + 1)) = L.drop (k + 1) := List.take_of_length_le (by rw [List.length_drop]; exact Nat.le_refl _)
   have htl : (L.take k).length = k := by rw [List.length_take]; omega
   refine dDrawn.intro [] (pln [2, 4, 6, 10, 12, 14, 16, 1, 9, 19, 20]) (by kernel_rfl) ?_
   simp only [tt, seval]
   simp only [e1, e3, e4, e5, take_rows Tok.row_len, drop_rows Tok.row_len, e7]
   refine ⟨by omega, by omega, by omega, by omega, Int.le_refl _, by kernel_rfl, by rw [flatMap_len Tok.row_len, htl], ⟨by simp only [maxLen]; omega, by omega⟩, by kernel_rfl, by rw [flatMap_len Tok.row_len, List.length_drop], ⟨by simp only [maxLen]; omega, by omega⟩, ?_⟩
   obtain ⟨l, hl⟩ : ∃ l, l = L.take k ++ L.drop (k + 1) := ⟨_, rfl⟩
   have hll : l.length = 0 + k + (L.length - (k + 1)) := by rw [hl, List.length_append, htl, List.length_drop]; omega
   have hlr : l.flatMap Tok.row = (L.take k).flatMap Tok.row ++ (L.drop (k + 1)).flatMap Tok.row := by rw [hl, List.flatMap_append]
   rw [← hll, ← hlr]
   refine ⟨.c (.sl l.length (l.flatMap Tok.row) none), [c2.cs], ⟨c2, ⟨l, rfl, by omega, fun t h => by
    rw [hl] at h
    rcases List.mem_append.1 h with h | h
    ·exact hT t (List.mem_of_mem_take h)
    ·exact hT t (List.mem_of_mem_drop h)⟩, rfl, i2⟩, endOk ?_⟩
   simp only [tt, seval, Cur.cs]
  ·try simp only [tt, seval]
   refine ⟨.c (.sl L.length (L.flatMap Tok.row) none), [c2.cs], ⟨c2, ⟨L, rfl, by omega, hT⟩, rfl, i2⟩, endOk ?_⟩
   simp only [tt, seval, Cur.cs]
 ·refine fun _ => And.intro (fun hlt => ?_) (fun hge => ?_)
  ·have hlt' : k < L.length := by omega
   try simp only [tt, seval]
   refine CallQ.intro (l3Bent_d c2 i2) ?_ ?_ ?_
   ·decide
   ·simp only [tt, seval, Cur.cs, baE, Tok.row]
   rintro r os ⟨c3, ⟨⟨tk, ts, ta⟩, rfl, hts⟩, rfl, i3⟩ hos
   simp only [tt, seval, Cur.cs, baE, Tok.row]
   refine ⟨by omega, by omega, by rw [flatMap_len Tok.row_len]; omega, ?_⟩
   obtain ⟨l, hl⟩ : ∃ l, l = L.set k ⟨tk, ts, ta⟩ := ⟨_, rfl⟩
   have hll : l.length = L.length := by rw [hl, List.length_set]
   have hlr : l.flatMap Tok.row = (L.flatMap Tok.row).take (k * 3) ++ D.lit (.int .i64 tk) :: D.lit (.string ts) :: D.lit (.int .i64 ta) :: (L.flatMap Tok.row).drop (k * 3 + 3) := by
    rw [hl, List.set_eq_take_append_cons_drop, if_pos hlt', List.flatMap_append, List.flatMap_cons, show k * 3 + 3 = (k + 1) * 3 by omega, take_rows Tok.row_len, drop_rows Tok.row_len]
    rfl
   rw [← hlr, ← hll]
   refine ⟨.c (.sl l.length (l.flatMap Tok.row) none), [c3.cs], ⟨c3, ⟨l, rfl, by omega, fun t h => by
    rw [hl] at h
    rcases List.mem_or_eq_of_mem_set h with h | h
    ·exact hT t h
    ·rw [h]; exact hts⟩, rfl, i3⟩, endOk ?_⟩
   simp only [tt, seval, Cur.cs]
  ·try simp only [tt, seval]
   refine ⟨.c (.sl L.length (L.flatMap Tok.row) none), [c2.cs], ⟨c2, ⟨L, rfl, by omega, hT⟩, rfl, i2⟩, endOk ?_⟩
   simp only [tt, seval, Cur.cs]
 ·refine ⟨.c (.sl L.length (L.flatMap Tok.row) none), [c2.cs], ⟨c2, ⟨L, rfl, by omega, hT⟩, rfl, i2⟩, endOk ?_⟩
  simp only [tt, seval, Cur.cs]
def ExR (d : Nat) (r : S) : Prop := ∃ e : Expr, r = .ag (csOf e.row) ∧ DrE d e
set_option maxHeartbeats 4000000 in
theorem l7Col_d (d : Nat) (c : Cur) (h0 : 0 ≤ c.i) : Cl Tryz.prog 63 [.c (.p 9000 0)] [c.cs] (CuS (ExR d)) := by
 refine cl_of_d follows_mixed false Tryz.func63 rfl (by kernel_rfl) ?_
 simp only [Tryz.f63, tt, seval]
 refine callF [5] ?_
 simp only [tt, seval, Cur.cs, srow, List.length_cons, List.length_nil, List.flatMap_cons, List.flatMap_nil, lc]
 refine Call1.intro (l1Pick_d c h0 [⟨#[97]⟩, ⟨#[98]⟩, ⟨#[99]⟩, ⟨#[105, 100]⟩, ⟨#[110, 97, 109, 101]⟩] (by decide)) ?_ ?_ ?_
 ·decide
 ·simp only [tt, seval, Cur.cs, srow, List.length_cons, List.length_nil, List.flatMap_cons, List.flatMap_nil, lc]
 rintro r os ⟨c2, ⟨s, hs, rfl⟩, rfl, ic2⟩ hos
 simp only [tt, seval, Cur.cs, srow, List.length_cons, List.length_nil, List.flatMap_cons, List.flatMap_nil, lc]
 have hs2 : nameB s = true := (by decide : ∀ s ∈ [⟨#[97]⟩, ⟨#[98]⟩, ⟨#[99]⟩, ⟨#[105, 100]⟩, ⟨#[110, 97, 109, 101]⟩], nameB s = true) s hs
 refine CallQ.intro (l1Once_d c2 ic2 3) ?_ ?_ ?_
 ·decide
 ·simp only [tt, seval, Cur.cs, baE]
 rintro r os ⟨c3, ⟨b, rfl⟩, rfl, i3⟩ hos
 simp only [tt, seval, Cur.cs, baE]
 refine And.intro (fun hb => ?_) (fun hb => ?_)
 ·skip
  refine callF [11] ?_
  simp only [tt, seval, Cur.cs, srow, List.length_cons, List.length_nil, List.flatMap_cons, List.flatMap_nil, lc]
  refine Call1.intro (l1Pick_d c3 i3 [⟨#[116]⟩, ⟨#[117]⟩, ⟨#[118]⟩] (by decide)) ?_ ?_ ?_
  ·decide
  ·simp only [tt, seval, Cur.cs, srow, List.length_cons, List.length_nil, List.flatMap_cons, List.flatMap_nil, lc]
  rintro r os ⟨c4, ⟨q, hq, rfl⟩, rfl, ic4⟩ hos
  simp only [tt, seval, Cur.cs, srow, List.length_cons, List.length_nil, List.flatMap_cons, List.flatMap_nil, lc]
  have hq2 : mayB q = true := (by decide : ∀ s ∈ [⟨#[116]⟩, ⟨#[117]⟩, ⟨#[118]⟩], mayB s = true) q hq
  refine CallQ.intro (l1Once_d c4 ic4 12) ?_ ?_ ?_
  ·decide
  ·simp only [tt, seval, Cur.cs, baE]
  rintro r os ⟨c7, ⟨b7, rfl⟩, rfl, i7⟩ hos
  simp only [tt, seval, Cur.cs, baE]
  refine And.intro (fun hb7 => ?_) (fun hb7 => ?_)
  ·skip
   refine CallQ.intro (l2Name_d c7 i7) ?_ ?_ ?_
   ·decide
   ·simp only [tt, seval, Cur.cs, baE]
   rintro r os ⟨c8, ⟨s8, rfl, hs8⟩, rfl, i8⟩ hos
   simp only [tt, seval, Cur.cs, baE]
   refine ⟨.ag (csOf (Expr.mk 2 0 false ⟨0, 0, ⟨#[]⟩⟩ q s8 [] []).row), [c8.cs], ⟨c8, ⟨_, rfl, DrE.col (hs8) (hq2) d⟩, rfl, i8⟩, endOk ?_⟩
   simp only [tt, seval, Expr.row_mk, Val.row, Cur.cs, baE]
  ·skip
   refine ⟨.ag (csOf (Expr.mk 2 0 false ⟨0, 0, ⟨#[]⟩⟩ q s [] []).row), [c7.cs], ⟨c7, ⟨_, rfl, DrE.col (hs2) (hq2) d⟩, rfl, i7⟩, endOk ?_⟩
   simp only [tt, seval, Expr.row_mk, Val.row, Cur.cs, baE]
 ·skip
  refine CallQ.intro (l1Once_d c3 i3 12) ?_ ?_ ?_
  ·decide
  ·simp only [tt, seval, Cur.cs, baE]
  rintro r os ⟨c7, ⟨b7, rfl⟩, rfl, i7⟩ hos
  simp only [tt, seval, Cur.cs, baE]
  refine And.intro (fun hb7 => ?_) (fun hb7 => ?_)
  ·skip
   refine CallQ.intro (l2Name_d c7 i7) ?_ ?_ ?_
   ·decide
   ·simp only [tt, seval, Cur.cs, baE]
   rintro r os ⟨c8, ⟨s8, rfl, hs8⟩, rfl, i8⟩ hos
   simp only [tt, seval, Cur.cs, baE]
   refine ⟨.ag (csOf (Expr.mk 2 0 false ⟨0, 0, ⟨#[]⟩⟩ ⟨#[]⟩ s8 [] []).row), [c8.cs], ⟨c8, ⟨_, rfl, DrE.col (hs8) ((by decide)) d⟩, rfl, i8⟩, endOk ?_⟩
   simp only [tt, seval, Expr.row_mk, Val.row, Cur.cs, baE]
  ·skip
   refine ⟨.ag (csOf (Expr.mk 2 0 false ⟨0, 0, ⟨#[]⟩⟩ ⟨#[]⟩ s [] []).row), [c7.cs], ⟨c7, ⟨_, rfl, DrE.col (hs2) ((by decide)) d⟩, rfl, i7⟩, endOk ?_⟩
   simp only [tt, seval, Expr.row_mk, Val.row, Cur.cs, baE]
theorem ex_sn (l : List Expr) (k0 o0 : Int) (n0 : Bool) (v0 : Val) (q0 m0 : ByteArray) (ks0 : List Expr) (ss0 : List Query) : l.flatMap Expr.row ++ [int k0, int o0, bool n0, int v0.kind, int v0.num, str v0.text, str q0, str m0, .sl ks0.length (ks0.flatMap Expr.row), .sl ss0.length (ss0.flatMap Query.row)] = (l ++ [Expr.mk k0 o0 n0 v0 q0 m0 ks0 ss0]).flatMap Expr.row := by
 rw [List.flatMap_append, List.flatMap_cons, List.flatMap_nil, List.append_nil, Expr.row_mk]
def SpX (d : Nat) : Prop := ∀ (c : Cur) (_ : 0 ≤ c.i), Cl Tryz.prog 30 [.c (.p 9000 0), vi d] [c.cs] (CuS (ExR d))
def QuR (d : Nat) (r : S) : Prop := ∃ q : Query, r = .ag (csOf q.row) ∧ DrQ d q
def SpQy (d : Nat) : Prop := ∀ (c : Cur) (_ : 0 ≤ c.i), Cl Tryz.prog 66 [.c (.p 9000 0), vi d] [c.cs] (CuS (QuR d))
def KdR (d n : Nat) (r : S) : Prop := ∃ l : List Expr, r = .c (.sl l.length (l.flatMap Expr.row) none) ∧ l.length = n ∧ ∀ x, x ∈ l → DrE d x
set_option maxHeartbeats 2000000 in
theorem l7Kids_step (d : Nat) (hd9 : d ≤ 100) (hE : SpX d) (n : Nat) (hn : n ≤ 100) (c : Cur) (h0 : 0 ≤ c.i) : Cl Tryz.prog 65 [.c (.p 9000 0), vi (d + 1 : Nat), vi n] [c.cs] (CuS (KdR d n)) := by
 have hdd : IntKind.i64.wrap (((d + 1 : Nat) : Int) - 1) = d := by rw [wrap_id (by omega) (by omega)]; omega
 refine cl_of_d follows_mixed false Tryz.func65 rfl (by kernel_rfl) ?_
 simp only [Tryz.f65, tt, seval]
 refine dLoop.gh [.ren 9 21] ⟨by decide, by decide, ?_⟩
 refine dLoop0.intro (fun f L p => ∃ (i : Nat) (l : List Expr) (c' : Cur), f 8 = vi i ∧ f 7 = .c (.s 21 l.length) ∧ l.length = i ∧ i ≤ n ∧ (∀ x, x ∈ l → DrE d x) ∧ 0 ≤ c'.i ∧ L = [(21, .arr 32 (l).length ((l).flatMap Expr.row) none), (9000, .str c'.cs)] ∧ p = none) (fun f _ _ => (n - ixS (f 8)).toNat) [(21, .arr 32 (([] : List Expr)).length ((([] : List Expr)).flatMap Expr.row) none), (9000, .str c.cs)] none ⟨SubO.cons rfl (SubO.cons rfl (SubO.nil _)), PoSub.none _, ?_⟩ ?_
 ·simp only [tt, seval]
  exact ⟨0, [], c, rfl, rfl, rfl, Nat.zero_le _, (fun x h => by cases h), h0, rfl⟩
 ·rintro g L p ⟨i, l, c1, h8, h7, hl, hi, hal, i1, rfl, rfl⟩
  simp only [tt, seval] at h8 h7
  simp only [tt, seval, h8, h7, hdd, Int.ofNat_lt]
  refine And.intro (fun hlt => ?_) (fun hge => ?_)
  ·try simp only [tt, seval, h8, h7, hdd]
   refine CallQ.intro (hE c1 i1) ?_ ?_ ?_
   ·decide
   ·simp only [tt, seval, h8, h7, hdd, Expr.row_mk, Val.row, Cur.cs]
   rintro r os ⟨c2, ⟨⟨k, o, nn, v, q, m, ks, ss⟩, rfl, he⟩, rfl, i2⟩ hos
   simp only [tt, seval, h8, h7, hdd, Expr.row_mk, Val.row, Cur.cs]
   refine ⟨by kernel_rfl, ⟨by simp only [maxLen]; omega, by omega⟩, ?_⟩
   try simp only [tt, seval, h8, h7]
   rw [ex_sn, show l.length + 1 = (l ++ [Expr.mk k o nn v q m ks ss]).length by simp]
   try rw [wrS i (by omega)]
   exact ⟨[(21, .arr 32 (l ++ [Expr.mk k o nn v q m ks ss]).length ((l ++ [Expr.mk k o nn v q m ks ss]).flatMap Expr.row) none), (9000, .str c2.cs)], none, SubO.cons rfl (SubO.cons rfl (SubO.nil _)), PoSub.none _, ⟨i + 1, l ++ [Expr.mk k o nn v q m ks ss], c2, rfl, rfl, by simp [hl], by omega, fun x hx => by
    rcases List.mem_append.1 hx with h | h
    ·exact hal x h
    ·rw [List.mem_singleton.1 h]; exact he, i2, rfl, rfl⟩, by simp only [ixS]; omega⟩
  ·try simp only [tt, seval, h8, h7]
   refine ⟨.c (.sl l.length (l.flatMap Expr.row) none), [c1.cs], ⟨c1, ⟨l, rfl, by omega, hal⟩, rfl, i1⟩, endOk ?_⟩
   simp only [tt, seval, Cur.cs]
set_option maxHeartbeats 8000000 in
theorem l7Expr_step (d : Nat) (hd9 : d ≤ 50) (hK : ∀ d2, d = d2 + 1 → ∀ (n : Nat) (m : Int), m = n → n ≤ 100 → ∀ (c : Cur) (_ : 0 ≤ c.i), Cl Tryz.prog 65 [.c (.p 9000 0), vi d, vi m] [c.cs] (CuS (KdR d2 n))) (hQ : ∀ d3, d = d3 + 2 → SpQy d3) : SpX d := by
 intro c h0
 have hdd : True := trivial
 have hdd2 : True := trivial
 refine cl_of_d follows_mixed false Tryz.func30 rfl (by kernel_rfl) ?_
 simp only [Tryz.f30, tt, seval]
 by_cases hd0 : (d : Int) ≤ 0
 ·simp only [tt, seval, decide_eq_true hd0]
  refine CallQ.intro (l1Once_d c h0 2) ?_ ?_ ?_
  ·decide
  ·simp only [tt, seval, Cur.cs, baE, hdd, hdd2]
  rintro r os ⟨c5, ⟨b5, rfl⟩, rfl, i5⟩ hos
  simp only [tt, seval, Cur.cs, baE, hdd, hdd2]
  refine And.intro (fun hb5 => ?_) (fun hb5 => ?_)
  ·skip
   refine CallQ.intro (l7Col_d d c5 i5) ?_ ?_ ?_
   ·decide
   ·simp only [tt, seval, Expr.row_mk, Query.row_mk, Val.row, Cur.cs, baE, List.flatMap_cons, List.flatMap_nil, List.append_nil, List.length_cons, List.length_nil]
   rintro r os ⟨c6, ⟨⟨k, o, n, v, q, m, ks, ss⟩, rfl, he⟩, rfl, i6⟩ hos
   simp only [tt, seval, Expr.row_mk, Query.row_mk, Val.row, Cur.cs, baE, List.flatMap_cons, List.flatMap_nil, List.append_nil, List.length_cons, List.length_nil]
   refine ⟨.ag (csOf (Expr.mk k o n v q m ks ss).row), [c6.cs], ⟨c6, ⟨_, rfl, he⟩, rfl, i6⟩, endOk ?_⟩
   simp only [tt, seval, Expr.row_mk, Query.row_mk, Val.row, Cur.cs, baE, List.flatMap_cons, List.flatMap_nil, List.append_nil, List.length_cons, List.length_nil]
  ·skip
   refine CallQ.intro (l7Value_d c5 i5) ?_ ?_ ?_
   ·decide
   ·simp only [tt, seval, Expr.row_mk, Query.row_mk, Val.row, Cur.cs, baE, List.flatMap_cons, List.flatMap_nil, List.append_nil, List.length_cons, List.length_nil]
   rintro r os ⟨c6, ⟨⟨k, n, x⟩, rfl, hv⟩, rfl, i6⟩ hos
   simp only [tt, seval, Expr.row_mk, Query.row_mk, Val.row, Cur.cs, baE, List.flatMap_cons, List.flatMap_nil, List.append_nil, List.length_cons, List.length_nil]
   refine ⟨.ag (csOf (Expr.mk 1 0 false ⟨k, n, x⟩ ⟨#[]⟩ ⟨#[]⟩ [] []).row), [c6.cs], ⟨c6, ⟨_, rfl, DrE.lit hv.1 hv.2.1 hv.2.2 d⟩, rfl, i6⟩, endOk ?_⟩
   simp only [tt, seval, Expr.row_mk, Query.row_mk, Val.row, Cur.cs, baE, List.flatMap_cons, List.flatMap_nil, List.append_nil, List.length_cons, List.length_nil]
 ·simp only [tt, seval, decide_eq_false hd0]
  refine CallQ.intro (l1Once_d c h0 5) ?_ ?_ ?_
  ·decide
  ·simp only [tt, seval, Cur.cs, baE, hdd, hdd2]
  rintro r os ⟨c1, ⟨b1, rfl⟩, rfl, i1⟩ hos
  simp only [tt, seval, Cur.cs, baE, hdd, hdd2]
  refine And.intro (fun hb1 => ?_) (fun hb1 => ?_)
  ·try simp only [tt, seval]
   refine CallQ.intro (l1Once_d c1 i1 2) ?_ ?_ ?_
   ·decide
   ·simp only [tt, seval, Cur.cs, baE, hdd, hdd2]
   rintro r os ⟨c5, ⟨b5, rfl⟩, rfl, i5⟩ hos
   simp only [tt, seval, Cur.cs, baE, hdd, hdd2]
   refine And.intro (fun hb5 => ?_) (fun hb5 => ?_)
   ·skip
    refine CallQ.intro (l7Col_d d c5 i5) ?_ ?_ ?_
    ·decide
    ·simp only [tt, seval, Expr.row_mk, Query.row_mk, Val.row, Cur.cs, baE, List.flatMap_cons, List.flatMap_nil, List.append_nil, List.length_cons, List.length_nil]
    rintro r os ⟨c6, ⟨⟨k, o, n, v, q, m, ks, ss⟩, rfl, he⟩, rfl, i6⟩ hos
    simp only [tt, seval, Expr.row_mk, Query.row_mk, Val.row, Cur.cs, baE, List.flatMap_cons, List.flatMap_nil, List.append_nil, List.length_cons, List.length_nil]
    refine ⟨.ag (csOf (Expr.mk k o n v q m ks ss).row), [c6.cs], ⟨c6, ⟨_, rfl, he⟩, rfl, i6⟩, endOk ?_⟩
    simp only [tt, seval, Expr.row_mk, Query.row_mk, Val.row, Cur.cs, baE, List.flatMap_cons, List.flatMap_nil, List.append_nil, List.length_cons, List.length_nil]
   ·skip
    refine CallQ.intro (l7Value_d c5 i5) ?_ ?_ ?_
    ·decide
    ·simp only [tt, seval, Expr.row_mk, Query.row_mk, Val.row, Cur.cs, baE, List.flatMap_cons, List.flatMap_nil, List.append_nil, List.length_cons, List.length_nil]
    rintro r os ⟨c6, ⟨⟨k, n, x⟩, rfl, hv⟩, rfl, i6⟩ hos
    simp only [tt, seval, Expr.row_mk, Query.row_mk, Val.row, Cur.cs, baE, List.flatMap_cons, List.flatMap_nil, List.append_nil, List.length_cons, List.length_nil]
    refine ⟨.ag (csOf (Expr.mk 1 0 false ⟨k, n, x⟩ ⟨#[]⟩ ⟨#[]⟩ [] []).row), [c6.cs], ⟨c6, ⟨_, rfl, DrE.lit hv.1 hv.2.1 hv.2.2 d⟩, rfl, i6⟩, endOk ?_⟩
    simp only [tt, seval, Expr.row_mk, Query.row_mk, Val.row, Cur.cs, baE, List.flatMap_cons, List.flatMap_nil, List.append_nil, List.length_cons, List.length_nil]
  ·try simp only [tt, seval]
   obtain ⟨d2, hd⟩ : ∃ d2, d2 + 1 = d := ⟨d - 1, by omega⟩
   have hK := hK d2 hd.symm
   refine CallQ.intro (l1Below_d c1 i1 12) ?_ ?_ ?_
   ·decide
   ·simp only [tt, seval, Cur.cs, baE, hdd, hdd2]
   rintro r os ⟨x, c2, rfl, rfl, hx, i2⟩ hos
   simp only [tt, seval, Cur.cs, baE, hdd, hdd2]
   refine And.intro (fun hx0 => ?_) (fun hx0 => ?_)
   ·try simp only [tt, seval, Cur.cs, baE, hdd, hdd2]
    refine CallQ.intro (hK (1) (1) (rfl) (by omega) c2 i2) ?_ ?_ ?_
    ·decide
    ·simp only [tt, seval, Cur.cs, baE, hdd, hdd2]
    rintro r os ⟨c3, ⟨l, rfl, hll, hal⟩, rfl, ic3⟩ hos
    simp only [tt, seval, Cur.cs, baE, hdd, hdd2]
    refine ⟨.ag (csOf (Expr.mk 3 15 false ⟨0, 0, ⟨#[]⟩⟩ ⟨#[]⟩ ⟨#[]⟩ l []).row), [c3.cs], ⟨c3, ⟨_, rfl, hd ▸ DrE.kids (by simp [shapeB, okF, fmT, zV, hll]) (by omega) hal⟩, rfl, ic3⟩, endOk ?_⟩
    simp only [tt, seval, Expr.row_mk, Query.row_mk, Val.row, Cur.cs, baE, List.flatMap_cons, List.flatMap_nil, List.append_nil, List.length_cons, List.length_nil]
   ·try simp only [tt, seval, Cur.cs, baE, hdd, hdd2]
    refine And.intro (fun hx1 => ?_) (fun hx1 => ?_)
    ·try simp only [tt, seval, Cur.cs, baE, hdd, hdd2]
     refine CallQ.intro (hK (1) (1) (rfl) (by omega) c2 i2) ?_ ?_ ?_
     ·decide
     ·simp only [tt, seval, Cur.cs, baE, hdd, hdd2]
     rintro r os ⟨c3, ⟨l, rfl, hll, hal⟩, rfl, ic3⟩ hos
     simp only [tt, seval, Cur.cs, baE, hdd, hdd2]
     refine ⟨.ag (csOf (Expr.mk 3 16 false ⟨0, 0, ⟨#[]⟩⟩ ⟨#[]⟩ ⟨#[]⟩ l []).row), [c3.cs], ⟨c3, ⟨_, rfl, hd ▸ DrE.kids (by simp [shapeB, okF, fmT, zV, hll]) (by omega) hal⟩, rfl, ic3⟩, endOk ?_⟩
     simp only [tt, seval, Expr.row_mk, Query.row_mk, Val.row, Cur.cs, baE, List.flatMap_cons, List.flatMap_nil, List.append_nil, List.length_cons, List.length_nil]
    ·try simp only [tt, seval, Cur.cs, baE, hdd, hdd2]
     refine And.intro (fun hx2 => ?_) (fun hx2 => ?_)
     ·try simp only [tt, seval, Cur.cs, baE, hdd, hdd2]
      refine CallQ.intro (l1Once_d c2 i2 2) ?_ ?_ ?_
      ·decide
      ·simp only [tt, seval, Cur.cs, baE, hdd, hdd2]
      rintro r os ⟨c3, ⟨bn, rfl⟩, rfl, ic3⟩ hos
      simp only [tt, seval, Cur.cs, baE, hdd, hdd2]
      refine CallQ.intro (hK (1) (1) (rfl) (by omega) c3 ic3) ?_ ?_ ?_
      ·decide
      ·simp only [tt, seval, Cur.cs, baE, hdd, hdd2]
      rintro r os ⟨c4, ⟨l, rfl, hll, hal⟩, rfl, ic4⟩ hos
      simp only [tt, seval, Cur.cs, baE, hdd, hdd2]
      refine ⟨.ag (csOf (Expr.mk 5 0 bn ⟨0, 0, ⟨#[]⟩⟩ ⟨#[]⟩ ⟨#[]⟩ l []).row), [c4.cs], ⟨c4, ⟨_, rfl, hd ▸ DrE.kids (by simp [shapeB, okF, fmT, zV, hll]) (by omega) hal⟩, rfl, ic4⟩, endOk ?_⟩
      simp only [tt, seval, Expr.row_mk, Query.row_mk, Val.row, Cur.cs, baE, List.flatMap_cons, List.flatMap_nil, List.append_nil, List.length_cons, List.length_nil]
     ·try simp only [tt, seval, Cur.cs, baE, hdd, hdd2]
      refine And.intro (fun hx3 => ?_) (fun hx3 => ?_)
      ·try simp only [tt, seval, Cur.cs, baE, hdd, hdd2]
       refine CallQ.intro (l1Once_d c2 i2 2) ?_ ?_ ?_
       ·decide
       ·simp only [tt, seval, Cur.cs, baE, hdd, hdd2]
       rintro r os ⟨c3, ⟨bn, rfl⟩, rfl, ic3⟩ hos
       simp only [tt, seval, Cur.cs, baE, hdd, hdd2]
       refine CallQ.intro (hK (3) (3) (rfl) (by omega) c3 ic3) ?_ ?_ ?_
       ·decide
       ·simp only [tt, seval, Cur.cs, baE, hdd, hdd2]
       rintro r os ⟨c4, ⟨l, rfl, hll, hal⟩, rfl, ic4⟩ hos
       simp only [tt, seval, Cur.cs, baE, hdd, hdd2]
       refine ⟨.ag (csOf (Expr.mk 6 0 bn ⟨0, 0, ⟨#[]⟩⟩ ⟨#[]⟩ ⟨#[]⟩ l []).row), [c4.cs], ⟨c4, ⟨_, rfl, hd ▸ DrE.kids (by simp [shapeB, okF, fmT, zV, hll]) (by omega) hal⟩, rfl, ic4⟩, endOk ?_⟩
       simp only [tt, seval, Expr.row_mk, Query.row_mk, Val.row, Cur.cs, baE, List.flatMap_cons, List.flatMap_nil, List.append_nil, List.length_cons, List.length_nil]
      ·try simp only [tt, seval, Cur.cs, baE, hdd, hdd2]
       refine And.intro (fun hx4 => ?_) (fun hx4 => ?_)
       ·try simp only [tt, seval, Cur.cs, baE, hdd, hdd2]
        refine CallQ.intro (l1Once_d c2 i2 2) ?_ ?_ ?_
        ·decide
        ·simp only [tt, seval, Cur.cs, baE, hdd, hdd2]
        rintro r os ⟨c3, ⟨bn, rfl⟩, rfl, ic3⟩ hos
        simp only [tt, seval, Cur.cs, baE, hdd, hdd2]
        refine CallQ.intro (l1Below_d c3 ic3 2) ?_ ?_ ?_
        ·decide
        ·simp only [tt, seval, Cur.cs, baE, hdd, hdd2]
        rintro r os ⟨y, c4, rfl, rfl, hy, i4⟩ hos
        simp only [tt, seval, Cur.cs, baE, hdd, hdd2]
        have hy2 := hy.2 (by omega)
        obtain ⟨yn, rfl⟩ : ∃ yn : Nat, y = yn := ⟨y.toNat, by omega⟩
        rw [wrap_id (n := (2 : Int) + (yn : Int)) (by omega) (by omega)]
        refine CallQ.intro (hK (2 + yn) ((2 : Int) + (yn : Int)) (by omega) (by omega) c4 i4) ?_ ?_ ?_
        ·decide
        ·simp only [tt, seval, Cur.cs, baE, hdd, hdd2]
        rintro r os ⟨c7, ⟨l, rfl, hll, hal⟩, rfl, ic7⟩ hos
        simp only [tt, seval, Cur.cs, baE, hdd, hdd2]
        have hsh : shapeB 7 0 bn ⟨0, 0, ⟨#[]⟩⟩ ⟨#[]⟩ ⟨#[]⟩ l.length 0 = true := by
         have : yn = 0 ∨ yn = 1 := by omega
         rcases this with rfl | rfl <;> simp [shapeB, okF, fmT, zV, hll]
        refine ⟨.ag (csOf (Expr.mk 7 0 bn ⟨0, 0, ⟨#[]⟩⟩ ⟨#[]⟩ ⟨#[]⟩ l []).row), [c7.cs], ⟨c7, ⟨_, rfl, hd ▸ DrE.kids hsh (by omega) hal⟩, rfl, ic7⟩, endOk ?_⟩
        simp only [tt, seval, Expr.row_mk, Query.row_mk, Val.row, Cur.cs, baE, List.flatMap_cons, List.flatMap_nil, List.append_nil, List.length_cons, List.length_nil]
       ·try simp only [tt, seval, Cur.cs, baE, hdd, hdd2]
        refine And.intro (fun hx5 => ?_) (fun hx5 => ?_)
        ·try simp only [tt, seval, Cur.cs, baE, hdd, hdd2]
         refine And.intro (fun hg => ?_) (fun hg => ?_)
         ·obtain ⟨d3, hd3⟩ : ∃ d3, d2 = d3 + 1 := ⟨d2 - 1, by omega⟩
          have hdq : IntKind.i64.wrap ((d : Int) - 2) = d3 := by rw [wrap_id (by omega) (by omega)]; omega
          try simp only [tt, seval, hdq, Cur.cs, baE, hdd, hdd2]
          refine CallQ.intro (l1Once_d c2 i2 2) ?_ ?_ ?_
          ·decide
          ·simp only [tt, seval, Cur.cs, baE, hdd, hdd2]
          rintro r os ⟨c3, ⟨bn, rfl⟩, rfl, ic3⟩ hos
          simp only [tt, seval, Cur.cs, baE, hdd, hdd2]
          refine CallQ.intro (hK (1) (1) (rfl) (by omega) c3 ic3) ?_ ?_ ?_
          ·decide
          ·simp only [tt, seval, Cur.cs, baE, hdd, hdd2]
          rintro r os ⟨c4, ⟨l, rfl, hll, hal⟩, rfl, ic4⟩ hos
          simp only [tt, seval, Cur.cs, baE, hdd, hdd2]
          try simp only [tt, seval, hdq]
          refine CallQ.intro (hQ d3 (by omega) c4 ic4) ?_ ?_ ?_
          ·decide
          ·simp only [tt, seval, hdq, Expr.row_mk, Query.row_mk, Val.row, Cur.cs, baE, List.flatMap_cons, List.flatMap_nil, List.append_nil, List.length_cons, List.length_nil]
          rintro r os ⟨c7, ⟨⟨qd, qi, qf, qw, qo, ql⟩, rfl, hq⟩, rfl, i7⟩ hos
          simp only [tt, seval, hdq, Expr.row_mk, Query.row_mk, Val.row, Cur.cs, baE, List.flatMap_cons, List.flatMap_nil, List.append_nil, List.length_cons, List.length_nil]
          refine ⟨.ag (csOf (Expr.mk 8 0 bn ⟨0, 0, ⟨#[]⟩⟩ ⟨#[]⟩ ⟨#[]⟩ l [(Query.mk qd qi qf qw qo ql)]).row), [c7.cs], ⟨c7, ⟨_, rfl, (show d3 + 2 = d by omega) ▸ DrE.sub (by simp [shapeB, okF, fmT, zV, hll]) (by omega) (fun x hx => hd3 ▸ hal x hx) hq⟩, rfl, i7⟩, endOk ?_⟩
          simp only [tt, seval, Expr.row_mk, Query.row_mk, Val.row, Cur.cs, baE, List.flatMap_cons, List.flatMap_nil, List.append_nil, List.length_cons, List.length_nil]
         ·try simp only [tt, seval, Cur.cs, baE, hdd, hdd2]
          refine CallQ.intro (l1Below_d c2 i2 14) ?_ ?_ ?_
          ·decide
          ·simp only [tt, seval, Cur.cs, baE, hdd, hdd2]
          rintro r os ⟨y, c4, rfl, rfl, hy, i4⟩ hos
          simp only [tt, seval, Cur.cs, baE, hdd, hdd2]
          have hy2 := hy.2 (by omega)
          rw [wrap_id (n := (1 : Int) + y) (by omega) (by omega)]
          refine CallQ.intro (hK (2) (2) (rfl) (by omega) c4 i4) ?_ ?_ ?_
          ·decide
          ·simp only [tt, seval, Cur.cs, baE, hdd, hdd2]
          rintro r os ⟨c7, ⟨l, rfl, hll, hal⟩, rfl, ic7⟩ hos
          simp only [tt, seval, Cur.cs, baE, hdd, hdd2]
          refine ⟨.ag (csOf (Expr.mk 4 ((1 : Int) + y) false ⟨0, 0, ⟨#[]⟩⟩ ⟨#[]⟩ ⟨#[]⟩ l []).row), [c7.cs], ⟨c7, ⟨_, rfl, hd ▸ DrE.kids (by simp [shapeB, okF, fmT, zV, hll]; omega) (by omega) hal⟩, rfl, ic7⟩, endOk ?_⟩
          simp only [tt, seval, Expr.row_mk, Query.row_mk, Val.row, Cur.cs, baE, List.flatMap_cons, List.flatMap_nil, List.append_nil, List.length_cons, List.length_nil]
        ·try simp only [tt, seval, Cur.cs, baE, hdd, hdd2]
         refine And.intro (fun hx6 => ?_) (fun hx6 => ?_)
         ·try simp only [tt, seval, Cur.cs, baE, hdd, hdd2]
          refine And.intro (fun hg => ?_) (fun hg => ?_)
          ·obtain ⟨d3, hd3⟩ : ∃ d3, d2 = d3 + 1 := ⟨d2 - 1, by omega⟩
           have hdq : IntKind.i64.wrap ((d : Int) - 2) = d3 := by rw [wrap_id (by omega) (by omega)]; omega
           try simp only [tt, seval, hdq, Cur.cs, baE, hdd, hdd2]
           refine CallQ.intro (hQ d3 (by omega) c2 i2) ?_ ?_ ?_
           ·decide
           ·simp only [tt, seval, hdq, Expr.row_mk, Query.row_mk, Val.row, Cur.cs, baE, List.flatMap_cons, List.flatMap_nil, List.append_nil, List.length_cons, List.length_nil]
           rintro r os ⟨c7, ⟨⟨qd, qi, qf, qw, qo, ql⟩, rfl, hq⟩, rfl, i7⟩ hos
           simp only [tt, seval, hdq, Expr.row_mk, Query.row_mk, Val.row, Cur.cs, baE, List.flatMap_cons, List.flatMap_nil, List.append_nil, List.length_cons, List.length_nil]
           refine ⟨.ag (csOf (Expr.mk 9 0 false ⟨0, 0, ⟨#[]⟩⟩ ⟨#[]⟩ ⟨#[]⟩ [] [(Query.mk qd qi qf qw qo ql)]).row), [c7.cs], ⟨c7, ⟨_, rfl, (show d3 + 2 = d by omega) ▸ DrE.sub (by simp [shapeB, okF, fmT, zV]) (by simp) (fun x hx => by cases hx) hq⟩, rfl, i7⟩, endOk ?_⟩
           simp only [tt, seval, Expr.row_mk, Query.row_mk, Val.row, Cur.cs, baE, List.flatMap_cons, List.flatMap_nil, List.append_nil, List.length_cons, List.length_nil]
          ·try simp only [tt, seval, Cur.cs, baE, hdd, hdd2]
           refine CallQ.intro (l1Below_d c2 i2 14) ?_ ?_ ?_
           ·decide
           ·simp only [tt, seval, Cur.cs, baE, hdd, hdd2]
           rintro r os ⟨y, c4, rfl, rfl, hy, i4⟩ hos
           simp only [tt, seval, Cur.cs, baE, hdd, hdd2]
           have hy2 := hy.2 (by omega)
           rw [wrap_id (n := (1 : Int) + y) (by omega) (by omega)]
           refine CallQ.intro (hK (2) (2) (rfl) (by omega) c4 i4) ?_ ?_ ?_
           ·decide
           ·simp only [tt, seval, Cur.cs, baE, hdd, hdd2]
           rintro r os ⟨c7, ⟨l, rfl, hll, hal⟩, rfl, ic7⟩ hos
           simp only [tt, seval, Cur.cs, baE, hdd, hdd2]
           refine ⟨.ag (csOf (Expr.mk 4 ((1 : Int) + y) false ⟨0, 0, ⟨#[]⟩⟩ ⟨#[]⟩ ⟨#[]⟩ l []).row), [c7.cs], ⟨c7, ⟨_, rfl, hd ▸ DrE.kids (by simp [shapeB, okF, fmT, zV, hll]; omega) (by omega) hal⟩, rfl, ic7⟩, endOk ?_⟩
           simp only [tt, seval, Expr.row_mk, Query.row_mk, Val.row, Cur.cs, baE, List.flatMap_cons, List.flatMap_nil, List.append_nil, List.length_cons, List.length_nil]
         ·try simp only [tt, seval, Cur.cs, baE, hdd, hdd2]
          try simp only [tt, seval]
          refine CallQ.intro (l1Below_d c2 i2 14) ?_ ?_ ?_
          ·decide
          ·simp only [tt, seval, Cur.cs, baE, hdd, hdd2]
          rintro r os ⟨y, c4, rfl, rfl, hy, i4⟩ hos
          simp only [tt, seval, Cur.cs, baE, hdd, hdd2]
          have hy2 := hy.2 (by omega)
          rw [wrap_id (n := (1 : Int) + y) (by omega) (by omega)]
          refine CallQ.intro (hK (2) (2) (rfl) (by omega) c4 i4) ?_ ?_ ?_
          ·decide
          ·simp only [tt, seval, Cur.cs, baE, hdd, hdd2]
          rintro r os ⟨c7, ⟨l, rfl, hll, hal⟩, rfl, ic7⟩ hos
          simp only [tt, seval, Cur.cs, baE, hdd, hdd2]
          refine ⟨.ag (csOf (Expr.mk 4 ((1 : Int) + y) false ⟨0, 0, ⟨#[]⟩⟩ ⟨#[]⟩ ⟨#[]⟩ l []).row), [c7.cs], ⟨c7, ⟨_, rfl, hd ▸ DrE.kids (by simp [shapeB, okF, fmT, zV, hll]; omega) (by omega) hal⟩, rfl, ic7⟩, endOk ?_⟩
          simp only [tt, seval, Expr.row_mk, Query.row_mk, Val.row, Cur.cs, baE, List.flatMap_cons, List.flatMap_nil, List.append_nil, List.length_cons, List.length_nil]
def ItOk (d : Nat) (x : Item) : Prop := itB x = true ∧ szItem x ≤ 41 + 200 * dN d ∧ (x.star = false → DrE d x.e)
def SrOk (d i : Nat) (x : Source) : Prop := srB i x = true ∧ szSource x ≤ 41 + x.on.length * (1 + 200 * dN d) ∧ ∀ e, e ∈ x.on → DrE d e
theorem zero_e : zeroE (.mk 0 0 false ⟨0, 0, ⟨#[]⟩⟩ ⟨#[]⟩ ⟨#[]⟩ [] []) = true := rfl
theorem name_sz {s : ByteArray} (h : nameB s = true) : s.size ≤ 20 := by
 simp only [nameB, decide_eq_true_eq] at h; omega
theorem may_sz {s : ByteArray} (h : mayB s = true) : s.size ≤ 20 := by
 simp only [mayB, nameB, Bool.or_eq_true, decide_eq_true_eq] at h
 rcases h with rfl | h
 ·decide
 ·omega
theorem ItOk.star {d : Nat} {q : ByteArray} (h : mayB q = true) : ItOk d (.mk true q (.mk 0 0 false ⟨0, 0, ⟨#[]⟩⟩ ⟨#[]⟩ ⟨#[]⟩ [] []) ⟨#[]⟩) := by
 refine ⟨by simp only [itB, if_true, h, zero_e]; rfl, ?_, fun h => by cases h⟩
 have := may_sz h
 have e0 : ({ data := #[] } : ByteArray).size = 0 := rfl
 rw [szItem_mk, szExpr_mk, szExprs_eq, szQuerys_eq]
 simp [szVal]
 omega
theorem ItOk.ex {d : Nat} {e : Expr} {a : ByteArray} (he : DrE d e) (h : mayB a = true) : ItOk d (.mk false ⟨#[]⟩ e a) := by
 refine ⟨by simp only [itB, h]; rfl, ?_, fun _ => he⟩
 have := may_sz h
 have := he.sz
 have e0 : ({ data := #[] } : ByteArray).size = 0 := rfl
 rw [szItem_mk]
 omega
theorem SrOk.mk' {d i : Nat} {t a : ByteArray} {on : List Expr} (ht : nameB t = true) (ha : mayB a = true) (h1 : on.length ≤ 1) (h0 : i = 0 → on = []) (ho : ∀ e, e ∈ on → DrE d e) : SrOk d i (.mk t a on) := by
 refine ⟨?_, ?_, ho⟩
 ·simp only [srB, ht, ha, Bool.true_and, Bool.and_eq_true, decide_eq_true_eq, Bool.or_eq_true]
  refine ⟨h1, ?_⟩
  by_cases hi : i = 0
  ·right; rw [h0 hi]; rfl
  ·exact .inl hi
 ·have := name_sz ht
  have := may_sz ha
  have s2 := sum_bound (g := szExpr) fun x hx => (ho x hx).sz
  rw [szSource_mk, szExprs_eq]
  show _ ≤ 41 + on.length * (1 + 200 * dN d)
  rw [Nat.mul_add, Nat.mul_one]
  omega
theorem DrQ.mk' {d : Nat} {di : Bool} {it : List Item} {fr : List Source} {wh : List Expr} {od : List SortKey} {li : Int} (h1 : 1 ≤ it.length) (h1' : it.length ≤ 2) (hi : ∀ x, x ∈ it → ItOk d x) (h2 : 1 ≤ fr.length) (h2' : fr.length ≤ 2) (hf : ∀ (i : Nat) (h : i < fr.length), SrOk d i fr[i])
 (h3 : wh.length ≤ 1) (hw : ∀ e, e ∈ wh → DrE d e) (h4 : od.length ≤ 1) (ho : ∀ k, k ∈ od → DrE d k.e) (h5 : -1 ≤ li) (h6 : li ≤ 9223372036854775807) : DrQ d (.mk di it fr wh od li) := by
 have hp := dN_pos d
 have hon : (fr.flatMap Source.on).length ≤ 1 := by
  match fr, h2, h2', hf with
  | [a], _, _, hf =>
   have := (hf 0 (by simp)).1
   obtain ⟨t, x, on⟩ := a
   simp only [srB, List.getElem_cons_zero, Bool.and_eq_true, decide_eq_true_eq, Bool.or_eq_true] at this
   simp only [List.flatMap_cons, List.flatMap_nil, List.append_nil, Source.on]
   omega
  | [a, b], _, _, hf =>
   have p1 := (hf 0 (by simp)).1
   have p2 := (hf 1 (by simp)).1
   obtain ⟨t, x, on⟩ := a
   obtain ⟨t', x', on'⟩ := b
   simp only [srB, List.getElem_cons_zero, List.getElem_cons_succ, Bool.and_eq_true, decide_eq_true_eq, Bool.or_eq_true] at p1 p2
   simp only [List.flatMap_cons, List.flatMap_nil, List.append_nil, Source.on, List.length_append]
   obtain ⟨_, _, _, q2⟩ := p1
   obtain ⟨_, _, q3, _⟩ := p2
   rcases q2 with q2 | q2
   ·exact absurd trivial q2
   ·omega
 have hfm : ∀ x, x ∈ fr → ∃ i, SrOk d i x := fun x hx => by
  obtain ⟨i, hi, rfl⟩ := List.mem_iff_getElem.1 hx
  exact ⟨i, hf i hi⟩
 have hex : ∀ x, x ∈ exprsQ (.mk di it fr wh od li) → DrE d x := fun x hx => by
  simp only [exprsQ, List.mem_append] at hx
  rcases hx with ((hx | hx) | hx) | hx
  ·simp only [exprsI, List.mem_map, List.mem_filter] at hx
   obtain ⟨y, ⟨hy, hs⟩, rfl⟩ := hx
   exact (hi y hy).2.2 (by simpa using hs)
  ·obtain ⟨y, hy, hx⟩ := List.mem_flatMap.1 hx
   obtain ⟨i, hh⟩ := hfm y hy
   exact hh.2.2 x hx
  ·exact hw x hx
  ·obtain ⟨y, hy, rfl⟩ := List.mem_map.1 hx
   exact ho y hy
 have hl1 := exprsI_len it
 refine ⟨?_, h6, hex, ?_, ?_⟩
 ·unfold hdB
  simp only [Bool.and_eq_true, decide_eq_true_eq]
  exact ⟨⟨h1, by omega⟩, ⟨h2, by omega⟩, h3, by omega, h5, List.all_eq_true.2 fun x hx => (hi x hx).1, sr_true fun j hj => (hf j hj).1⟩
 ·simp only [exprsQ, List.length_append, List.length_map]
  omega
 ·have b1 := sum_bound (g := szItem) (b := 41 + 200 * dN d) fun x hx => (hi x hx).2.1
  have b3 := sum_bound (g := szExpr) fun x hx => (hw x hx).sz
  have b4 := sum_bound (g := szSortKey) (b := 200 * dN d) (l := od) fun x hx => by
   obtain ⟨e, de⟩ := x
   rw [szSortKey_mk]; exact (ho _ hx).sz
  have b2 : (fr.map szSource).sum ≤ 82 + (1 + 200 * dN d) := by
   match fr, h2, h2', hf, hon with
   | [a], _, _, hf, hon =>
    have p1 := (hf 0 (by simp)).2.1
    simp only [List.getElem_cons_zero] at p1
    simp only [List.flatMap_cons, List.flatMap_nil, List.append_nil] at hon
    have := Nat.mul_le_mul_right (1 + 200 * dN d) hon
    simp only [List.map_cons, List.map_nil, List.sum_cons, List.sum_nil]
    omega
   | [a, b], _, _, hf, hon =>
    have p1 := (hf 0 (by simp)).2.1
    have p2 := (hf 1 (by simp)).2.1
    simp only [List.getElem_cons_zero, List.getElem_cons_succ] at p1 p2
    simp only [List.flatMap_cons, List.flatMap_nil, List.append_nil, List.length_append] at hon
    have := Nat.mul_le_mul_right (1 + 200 * dN d) hon
    rw [Nat.add_mul] at this
    simp only [List.map_cons, List.map_nil, List.sum_cons, List.sum_nil]
    omega
  have m1 := Nat.mul_le_mul_right (41 + 200 * dN d) h1'
  have m3 := Nat.mul_le_mul_right (200 * dN d) h3
  have m4 := Nat.mul_le_mul_right (200 * dN d) h4
  rw [szQuery_mk, szItems_eq, szSources_eq, szExprs_eq, szSortKeys_eq]
  omega
set_option maxHeartbeats 16000000 in
theorem l7Query_step (d : Nat) (hd9 : d ≤ 50) (hE : SpX d) : SpQy d := by
 intro c h0
 refine cl_of_d follows_mixed false Tryz.func66 rfl (by kernel_rfl) ?_
 simp only [Tryz.f66, tt, seval]
 refine CallQ.intro (l1Once_d c h0 4) ?_ ?_ ?_
 ·decide
 ·simp (maxSteps := 10000000) only [tt, seval, Cur.cs, baE]
 rintro r os ⟨c1, ⟨di, rfl⟩, rfl, i1⟩ hos
 simp (maxSteps := 10000000) only [tt, seval, Cur.cs, baE]
 refine CallQ.intro (l1Below_d c1 i1 2) ?_ ?_ ?_
 ·decide
 ·simp (maxSteps := 10000000) only [tt, seval, Cur.cs, baE]
 rintro r os ⟨y, c2, rfl, rfl, hy, i2⟩ hos
 simp (maxSteps := 10000000) only [tt, seval, Cur.cs, baE]
 have hy2 := hy.2 (by omega)
 obtain ⟨n0, hn0⟩ : ∃ n0 : Nat, (1 : Int) + y = n0 := ⟨((1 : Int) + y).toNat, by omega⟩
 rw [wrap_id (n := (1 : Int) + y) (by omega) (by omega), hn0]
 have hn01 : 1 ≤ n0 := by omega
 have hn02 : n0 ≤ 2 := by omega
 clear hn0 hy hy2
 refine dLoop.gh [.virtC 5 1 10045 130] ⟨by decide, ?_⟩
 simp (maxSteps := 10000000) only [tt, seval]
 refine dLoop0.introR (fun f L p => ∃ (i : Nat) (l : List Item) (c' : Cur) (F : Fp), f 7 = vi i ∧ l.length = i ∧ i ≤ n0 ∧ (∀ x, x ∈ l → ItOk d x) ∧ 0 ≤ c'.i ∧ L = [(9000, .str c'.cs), (5, .str [.v (.bool di), .s 10045 (l).length, .v (.slice none 0 0), .v (.slice none 0 0), .v (.slice none 0 0), .v (.int .i64 (-1))]), (10045, .arr 130 (l).length ((l).flatMap Item.row) F), (4, .str [.v (.bool false), .v (.slice none 0 0), .v (.slice none 0 0), .v (.slice none 0 0), .v (.slice none 0 0), .v (.int .i64 0)])] ∧ p = none) (fun f _ _ => (n0 - ixS (f 7)).toNat) [(9000, .str c2.cs), (5, .str [.v (.bool di), .s 10045 (([] : List Item)).length, .v (.slice none 0 0), .v (.slice none 0 0), .v (.slice none 0 0), .v (.int .i64 (-1))]), (10045, .arr 130 (([] : List Item)).length ((([] : List Item)).flatMap Item.row) (some [])), (4, .str [.v (.bool false), .v (.slice none 0 0), .v (.slice none 0 0), .v (.slice none 0 0), .v (.slice none 0 0), .v (.int .i64 0)])] none ⟨SubO.cons rfl (SubO.cons rfl (SubO.cons rfl (SubO.cons rfl (SubO.nil _)))), PoSub.none _, ?_⟩ ?_
 ·simp (maxSteps := 10000000) only [tt, seval]
  exact ⟨0, [], c2, some [], rfl, rfl, Nat.zero_le _, (fun x h => by cases h), i2, rfl⟩
 ·rintro g L p ⟨i, l, c3, F, h7, hl, hi, hal, i3, rfl, rfl⟩
  simp (maxSteps := 10000000) only [tt, seval] at h7
  simp (maxSteps := 10000000) only [tt, seval, h7, Int.ofNat_lt]
  refine And.intro (fun hlt => ?_) (fun hge => ?_)
  ·try simp (maxSteps := 10000000) only [tt, seval, h7, Cur.cs, baE, Val.row]
   refine CallQ.intro (l1Below_d c3 i3 5) ?_ ?_ ?_
   ·decide
   ·simp (maxSteps := 10000000) only [tt, seval, h7, Cur.cs, baE, Val.row]
   rintro r os ⟨x, c4, rfl, rfl, hx, i4⟩ hos
   simp (maxSteps := 10000000) only [tt, seval, h7, Cur.cs, baE, Val.row]
   refine And.intro (fun hx0 => ?_) (fun hx0 => And.intro (fun hx1 => ?_) (fun hx1 => ?_))
   ·try simp (maxSteps := 10000000) only [tt, seval, h7, Cur.cs, baE, Val.row]
    refine ⟨by kernel_rfl, ⟨by simp only [maxLen]; omega, by omega⟩, ?_⟩
    try simp (maxSteps := 10000000) only [tt, seval, h7, Cur.cs, baE, Val.row]
    try rw [wrS i (by omega)]
    refine ⟨[.ren 45 10045], by decide, by decide, ?_⟩
    simp (maxSteps := 10000000) only [tt, seval, ghs, h7, Cur.cs, baE, Val.row]
    refine ⟨[(9000, .str c4.cs), (5, .str [.v (.bool di), .s 10045 (l ++ [(Item.mk true ⟨#[]⟩ (.mk 0 0 false ⟨0, 0, ⟨#[]⟩⟩ ⟨#[]⟩ ⟨#[]⟩ [] []) ⟨#[]⟩)]).length, .v (.slice none 0 0), .v (.slice none 0 0), .v (.slice none 0 0), .v (.int .i64 (-1))]), (10045, .arr 130 (l ++ [(Item.mk true ⟨#[]⟩ (.mk 0 0 false ⟨0, 0, ⟨#[]⟩⟩ ⟨#[]⟩ ⟨#[]⟩ [] []) ⟨#[]⟩)]).length ((l ++ [(Item.mk true ⟨#[]⟩ (.mk 0 0 false ⟨0, 0, ⟨#[]⟩⟩ ⟨#[]⟩ ⟨#[]⟩ [] []) ⟨#[]⟩)]).flatMap Item.row) none), (4, .str [.v (.bool false), .v (.slice none 0 0), .v (.slice none 0 0), .v (.slice none 0 0), .v (.slice none 0 0), .v (.int .i64 0)])], none, by simp only [Item.row_mk, Source.row_mk, SortKey.row_mk, Expr.row_mk, Val.row, lc, List.append_nil, List.flatMap_append, List.flatMap_cons, List.flatMap_nil, List.length_append, List.length_cons, List.length_nil, Cur.cs]; exact SubO.cons rfl (SubO.cons rfl (SubO.cons rfl (SubO.cons rfl (SubO.nil _)))), PoSub.none _, ⟨i + 1, l ++ [(Item.mk true ⟨#[]⟩ (.mk 0 0 false ⟨0, 0, ⟨#[]⟩⟩ ⟨#[]⟩ ⟨#[]⟩ [] []) ⟨#[]⟩)], c4, none, by simp, by simp [hl], by omega, fun x hx => by
     rcases List.mem_append.1 hx with h | h
     ·exact hal x h
     ·rw [List.mem_singleton.1 h]; exact ItOk.star (by decide), i4, rfl, rfl⟩, by simp only [ixS]; omega⟩
   ·try simp (maxSteps := 10000000) only [tt, seval, h7, Cur.cs, baE, Val.row]
    refine dDrawn.intro [53] (.take 0 (.take 2 (.br 1 (.br 3 (.br 4 (.take 5 (.br 6 (.br 7 (.take 8 (.br 9 .done .nobr)) .nobr) .nobr)) .nobr) .nobr) (.br 3 (.br 1 (.br 4 (.take 5 (.br 6 (.br 7 (.take 8 (.br 9 .done .nobr)) .nobr) .nobr)) .nobr) (.br 4 (.take 1 (.take 5 (.br 6 (.br 7 (.take 8 (.br 9 .done .nobr)) .nobr) .nobr))) .nobr)) .nobr)))) (by kernel_rfl) ?_
    simp (maxSteps := 10000000) only [tt, seval]
    all_goals try simp (maxSteps := 10000000) only [tt, seval, h7, Cur.cs, baE, Val.row]
    all_goals repeat' first | refine brC ?_ ?_ | refine brC2 ?_ ?_
    all_goals
     refine callF [52] ?_
     simp (maxSteps := 10000000) only [tt, seval, h7, Cur.cs, baE, Val.row, srow, List.length_cons, List.length_nil, List.flatMap_cons, List.flatMap_nil, lc]
     refine Call1.intro (l1Pick_d c4 i4 [⟨#[116]⟩, ⟨#[117]⟩] (by decide)) ?_ ?_ ?_
     ·decide
     ·simp (maxSteps := 10000000) only [tt, seval, h7, Cur.cs, baE, Val.row, srow, List.length_cons, List.length_nil, List.flatMap_cons, List.flatMap_nil, lc]
      try decide
     rintro r os ⟨c5, ⟨s, hs, rfl⟩, rfl, ic5⟩ hos
     simp (maxSteps := 10000000) only [tt, seval, h7, Cur.cs, baE, Val.row, srow, List.length_cons, List.length_nil, List.flatMap_cons, List.flatMap_nil, lc]
    all_goals repeat' first | refine brA ?_ ?_ | refine brA2 ?_ ?_ | refine brA3 ?_ ?_
    all_goals
     refine ⟨by kernel_rfl, ⟨by simp only [maxLen]; omega, by omega⟩, ?_⟩
    all_goals
     have hs2 : mayB s = true := (by decide : ∀ s ∈ [⟨#[116]⟩, ⟨#[117]⟩], mayB s = true) s hs
     try simp (maxSteps := 10000000) only [tt, seval, h7, Cur.cs, baE, Val.row]
     try rw [wrS i (by omega)]
     refine ⟨[.ren 56 10045], by decide, by decide, ?_⟩
     simp (maxSteps := 10000000) only [tt, seval, ghs, h7, Cur.cs, baE, Val.row]
     refine ⟨[(9000, .str c5.cs), (5, .str [.v (.bool di), .s 10045 (l ++ [(Item.mk true s (.mk 0 0 false ⟨0, 0, ⟨#[]⟩⟩ ⟨#[]⟩ ⟨#[]⟩ [] []) ⟨#[]⟩)]).length, .v (.slice none 0 0), .v (.slice none 0 0), .v (.slice none 0 0), .v (.int .i64 (-1))]), (10045, .arr 130 (l ++ [(Item.mk true s (.mk 0 0 false ⟨0, 0, ⟨#[]⟩⟩ ⟨#[]⟩ ⟨#[]⟩ [] []) ⟨#[]⟩)]).length ((l ++ [(Item.mk true s (.mk 0 0 false ⟨0, 0, ⟨#[]⟩⟩ ⟨#[]⟩ ⟨#[]⟩ [] []) ⟨#[]⟩)]).flatMap Item.row) none), (4, .str [.v (.bool false), .v (.slice none 0 0), .v (.slice none 0 0), .v (.slice none 0 0), .v (.slice none 0 0), .v (.int .i64 0)])], none, by simp only [Item.row_mk, Source.row_mk, SortKey.row_mk, Expr.row_mk, Val.row, lc, List.append_nil, List.flatMap_append, List.flatMap_cons, List.flatMap_nil, List.length_append, List.length_cons, List.length_nil, Cur.cs]; exact SubO.cons rfl (SubO.cons rfl (SubO.cons rfl (SubO.cons rfl (SubO.nil _)))), PoSub.none _, ⟨i + 1, l ++ [(Item.mk true s (.mk 0 0 false ⟨0, 0, ⟨#[]⟩⟩ ⟨#[]⟩ ⟨#[]⟩ [] []) ⟨#[]⟩)], c5, none, by simp, by simp [hl], by omega, fun x hx => by
      rcases List.mem_append.1 hx with h | h
      ·exact hal x h
      ·rw [List.mem_singleton.1 h]; exact ItOk.star hs2, ic5, rfl, rfl⟩, by simp only [ixS]; omega⟩
   ·try simp (maxSteps := 10000000) only [tt, seval, h7, Cur.cs, baE, Val.row]
    refine CallQ.intro (hE c4 i4) ?_ ?_ ?_
    ·decide
    ·simp (maxSteps := 10000000) only [tt, seval, h7, Cur.cs, baE, Val.row, Expr.row_mk]
    rintro r os ⟨c5, ⟨⟨k, o, nn, v, q, m, ks, ss⟩, rfl, he⟩, rfl, i5⟩ hos
    simp (maxSteps := 10000000) only [tt, seval, h7, Cur.cs, baE, Val.row, Expr.row_mk]
    refine CallQ.intro (l1Once_d c5 i5 2) ?_ ?_ ?_
    ·decide
    ·simp (maxSteps := 10000000) only [tt, seval, h7, Cur.cs, baE, Val.row, Expr.row_mk]
    rintro r os ⟨c6, ⟨b6, rfl⟩, rfl, i6⟩ hos
    simp (maxSteps := 10000000) only [tt, seval, h7, Cur.cs, baE, Val.row, Expr.row_mk]
    refine And.intro (fun hb6 => ?_) (fun hb6 => ?_)
    ·try simp (maxSteps := 10000000) only [tt, seval, h7, Cur.cs, baE, Val.row]
     refine CallQ.intro (l2Name_d c6 i6) ?_ ?_ ?_
     ·decide
     ·simp (maxSteps := 10000000) only [tt, seval, h7, Cur.cs, baE, Val.row, Expr.row_mk]
     rintro r os ⟨c7, ⟨s7, rfl, hs7⟩, rfl, i7⟩ hos
     simp (maxSteps := 10000000) only [tt, seval, h7, Cur.cs, baE, Val.row, Expr.row_mk]
     have hs8 : mayB s7 = true := by unfold mayB; rw [hs7]; simp
     refine ⟨by kernel_rfl, ⟨by simp only [maxLen]; omega, by omega⟩, ?_⟩
     try simp (maxSteps := 10000000) only [tt, seval, h7, Cur.cs, baE, Val.row]
     try rw [wrS i (by omega)]
     refine ⟨[.ren 37 10045], by decide, by decide, ?_⟩
     simp (maxSteps := 10000000) only [tt, seval, ghs, h7, Cur.cs, baE, Val.row]
     refine ⟨[(9000, .str c7.cs), (5, .str [.v (.bool di), .s 10045 (l ++ [(Item.mk false ⟨#[]⟩ (Expr.mk k o nn v q m ks ss) s7)]).length, .v (.slice none 0 0), .v (.slice none 0 0), .v (.slice none 0 0), .v (.int .i64 (-1))]), (10045, .arr 130 (l ++ [(Item.mk false ⟨#[]⟩ (Expr.mk k o nn v q m ks ss) s7)]).length ((l ++ [(Item.mk false ⟨#[]⟩ (Expr.mk k o nn v q m ks ss) s7)]).flatMap Item.row) none), (4, .str [.v (.bool false), .v (.slice none 0 0), .v (.slice none 0 0), .v (.slice none 0 0), .v (.slice none 0 0), .v (.int .i64 0)])], none, by simp only [Item.row_mk, Source.row_mk, SortKey.row_mk, Expr.row_mk, Val.row, lc, List.append_nil, List.flatMap_append, List.flatMap_cons, List.flatMap_nil, List.length_append, List.length_cons, List.length_nil, Cur.cs]; exact SubO.cons rfl (SubO.cons rfl (SubO.cons rfl (SubO.cons rfl (SubO.nil _)))), PoSub.none _, ⟨i + 1, l ++ [(Item.mk false ⟨#[]⟩ (Expr.mk k o nn v q m ks ss) s7)], c7, none, by simp, by simp [hl], by omega, fun x hx => by
      rcases List.mem_append.1 hx with h | h
      ·exact hal x h
      ·rw [List.mem_singleton.1 h]; exact ItOk.ex he hs8, i7, rfl, rfl⟩, by simp only [ixS]; omega⟩
    ·try simp (maxSteps := 10000000) only [tt, seval, h7, Cur.cs, baE, Val.row]
     refine ⟨by kernel_rfl, ⟨by simp only [maxLen]; omega, by omega⟩, ?_⟩
     try simp (maxSteps := 10000000) only [tt, seval, h7, Cur.cs, baE, Val.row]
     try rw [wrS i (by omega)]
     refine ⟨[.ren 37 10045], by decide, by decide, ?_⟩
     simp (maxSteps := 10000000) only [tt, seval, ghs, h7, Cur.cs, baE, Val.row]
     refine ⟨[(9000, .str c6.cs), (5, .str [.v (.bool di), .s 10045 (l ++ [(Item.mk false ⟨#[]⟩ (Expr.mk k o nn v q m ks ss) ⟨#[]⟩)]).length, .v (.slice none 0 0), .v (.slice none 0 0), .v (.slice none 0 0), .v (.int .i64 (-1))]), (10045, .arr 130 (l ++ [(Item.mk false ⟨#[]⟩ (Expr.mk k o nn v q m ks ss) ⟨#[]⟩)]).length ((l ++ [(Item.mk false ⟨#[]⟩ (Expr.mk k o nn v q m ks ss) ⟨#[]⟩)]).flatMap Item.row) none), (4, .str [.v (.bool false), .v (.slice none 0 0), .v (.slice none 0 0), .v (.slice none 0 0), .v (.slice none 0 0), .v (.int .i64 0)])], none, by simp only [Item.row_mk, Source.row_mk, SortKey.row_mk, Expr.row_mk, Val.row, lc, List.append_nil, List.flatMap_append, List.flatMap_cons, List.flatMap_nil, List.length_append, List.length_cons, List.length_nil, Cur.cs]; exact SubO.cons rfl (SubO.cons rfl (SubO.cons rfl (SubO.cons rfl (SubO.nil _)))), PoSub.none _, ⟨i + 1, l ++ [(Item.mk false ⟨#[]⟩ (Expr.mk k o nn v q m ks ss) ⟨#[]⟩)], c6, none, by simp, by simp [hl], by omega, fun x hx => by
      rcases List.mem_append.1 hx with h | h
      ·exact hal x h
      ·rw [List.mem_singleton.1 h]; exact ItOk.ex he (by decide), i6, rfl, rfl⟩, by simp only [ixS]; omega⟩
  ·obtain ⟨it, hite⟩ : ∃ it, it = l := ⟨_, rfl⟩
   have hit1 : 1 ≤ it.length := by rw [hite]; omega
   have hit2 : it.length ≤ 2 := by rw [hite]; omega
   have hit : ∀ x, x ∈ it → ItOk d x := by rw [hite]; exact hal
   rw [← hite]
   obtain ⟨FI, hFI⟩ : ∃ FI, FI = F := ⟨_, rfl⟩
   rw [← hFI]
   clear hal hFI hite
   try simp (maxSteps := 10000000) only [tt, seval, Cur.cs, baE, Val.row]
   refine CallQ.intro (l1Below_d c3 i3 2) ?_ ?_ ?_
   ·decide
   ·simp (maxSteps := 10000000) only [tt, seval, Cur.cs, baE]
   rintro r os ⟨y, c9, rfl, rfl, hy, i9⟩ hos
   simp (maxSteps := 10000000) only [tt, seval, Cur.cs, baE]
   have hy2 := hy.2 (by omega)
   obtain ⟨n1, hn0⟩ : ∃ n1 : Nat, (1 : Int) + y = n1 := ⟨((1 : Int) + y).toNat, by omega⟩
   rw [wrap_id (n := (1 : Int) + y) (by omega) (by omega), hn0]
   have hn11 : 1 ≤ n1 := by omega
   have hn12 : n1 ≤ 2 := by omega
   clear hn0 hy hy2
   refine dLoop.gh [.virtC 5 2 10090 132] ⟨by decide, ?_⟩
   simp (maxSteps := 10000000) only [tt, seval]
   refine dLoop0.introR (fun f L p => ∃ (j : Nat) (l : List Source) (c' : Cur) (F : Fp), f 9 = vi j ∧ l.length = j ∧ j ≤ n1 ∧ (∀ (x : Nat) (hx : x < l.length), SrOk d x l[x]) ∧ 0 ≤ c'.i ∧ L = [(9000, .str c'.cs), (5, .str [.v (.bool di), .s 10045 it.length, .s 10090 (l).length, .v (.slice none 0 0), .v (.slice none 0 0), .v (.int .i64 (-1))]), (10045, .arr 130 it.length (it.flatMap Item.row) FI), (10090, .arr 132 (l).length ((l).flatMap Source.row) F), (4, .str [.v (.bool false), .v (.slice none 0 0), .v (.slice none 0 0), .v (.slice none 0 0), .v (.slice none 0 0), .v (.int .i64 0)])] ∧ p = none) (fun f _ _ => (n1 - ixS (f 9)).toNat) [(9000, .str c9.cs), (5, .str [.v (.bool di), .s 10045 it.length, .s 10090 (([] : List Source)).length, .v (.slice none 0 0), .v (.slice none 0 0), .v (.int .i64 (-1))]), (10045, .arr 130 it.length (it.flatMap Item.row) FI), (10090, .arr 132 (([] : List Source)).length ((([] : List Source)).flatMap Source.row) (some [])), (4, .str [.v (.bool false), .v (.slice none 0 0), .v (.slice none 0 0), .v (.slice none 0 0), .v (.slice none 0 0), .v (.int .i64 0)])] none ⟨SubO.cons rfl (SubO.cons rfl (SubO.cons rfl (SubO.cons rfl (SubO.cons rfl (SubO.nil _))))), PoSub.none _, ?_⟩ ?_
   ·simp (maxSteps := 10000000) only [tt, seval]
    exact ⟨0, [], c9, some [], rfl, rfl, Nat.zero_le _, (fun x h => absurd h (Nat.not_lt_zero _)), i9, rfl⟩
   ·rintro g9 L p ⟨j, l, c3, F, h9, hl, hi2, hal, i3, rfl, rfl⟩
    simp (maxSteps := 10000000) only [tt, seval] at h9
    simp (maxSteps := 10000000) only [tt, seval, h9, Int.ofNat_lt]
    refine And.intro (fun hlt => ?_) (fun hge => ?_)
    ·try simp (maxSteps := 10000000) only [tt, seval, h9, Cur.cs, baE, Val.row]
     refine callF [67] ?_
     simp (maxSteps := 10000000) only [tt, seval, h9, Cur.cs, baE, Val.row, srow, List.length_cons, List.length_nil, List.flatMap_cons, List.flatMap_nil, lc]
     refine Call1.intro (l1Pick_d c3 i3 [⟨#[116]⟩, ⟨#[117]⟩, ⟨#[118]⟩] (by decide)) ?_ ?_ ?_
     ·decide
     ·simp (maxSteps := 10000000) only [tt, seval, h9, Cur.cs, baE, Val.row, srow, List.length_cons, List.length_nil, List.flatMap_cons, List.flatMap_nil, lc]
     rintro r os ⟨c4, ⟨tb, htb0, rfl⟩, rfl, ic4⟩ hos
     simp (maxSteps := 10000000) only [tt, seval, h9, Cur.cs, baE, Val.row, srow, List.length_cons, List.length_nil, List.flatMap_cons, List.flatMap_nil, lc]
     have htb : nameB tb = true := (by decide : ∀ s ∈ [⟨#[116]⟩, ⟨#[117]⟩, ⟨#[118]⟩], nameB s = true) tb htb0
     refine CallQ.intro (l1Once_d c4 ic4 3) ?_ ?_ ?_
     ·decide
     ·simp (maxSteps := 10000000) only [tt, seval, h9, Cur.cs, baE, Val.row]
     rintro r os ⟨c5, ⟨b5, rfl⟩, rfl, i5⟩ hos
     simp (maxSteps := 10000000) only [tt, seval, h9, Cur.cs, baE, Val.row]
     refine And.intro (fun hb => ?_) (fun hb => ?_)
     case' refine_1 =>
      try simp (maxSteps := 10000000) only [tt, seval, h9, Cur.cs, baE, Val.row]
      refine CallQ.intro (l2Name_d c5 i5) ?_ ?_ ?_
      ·decide
      ·simp (maxSteps := 10000000) only [tt, seval, h9, Cur.cs, baE, Val.row]
      rintro r os ⟨c6, ⟨s6, rfl, hs6⟩, rfl, i6⟩ hos
      simp (maxSteps := 10000000) only [tt, seval, h9, Cur.cs, baE, Val.row]
      obtain ⟨sa, hsa0⟩ : ∃ sa : ByteArray, sa = s6 := ⟨_, rfl⟩
      have hsa2 : mayB sa = true := by unfold mayB; rw [hsa0, hs6]; simp
     case' refine_2 =>
      try simp (maxSteps := 10000000) only [tt, seval, h9, Cur.cs, baE, Val.row]
      obtain ⟨sa, hsa0⟩ : ∃ sa : ByteArray, sa = ⟨#[]⟩ := ⟨_, rfl⟩
      have hsa2 : mayB sa = true := by rw [hsa0]; decide
      generalize hc0 : c5 = c6 at *
      have i6 := i5
     all_goals
      by_cases hj : (0 : Int) < (j : Int)
      case' pos =>
       simp (maxSteps := 10000000) only [tt, seval, decide_eq_true hj, h9, Cur.cs, baE, Val.row]
       refine CallQ.intro (l1Once_d c6 i6 2) ?_ ?_ ?_
       ·decide
       ·simp (maxSteps := 10000000) only [tt, seval, h9, Cur.cs, baE, Val.row]
       rintro r os ⟨c8, ⟨b8, rfl⟩, rfl, i8⟩ hos
       simp (maxSteps := 10000000) only [tt, seval, h9, Cur.cs, baE, Val.row]
       refine And.intro (fun hb => ?_) (fun hb => ?_)
       case' refine_1 =>
        try simp (maxSteps := 10000000) only [tt, seval, h9, Cur.cs, baE, Val.row]
        refine CallQ.intro (hE c8 i8) ?_ ?_ ?_
        ·decide
        ·simp (maxSteps := 10000000) only [tt, seval, h9, Cur.cs, baE, Val.row, Expr.row_mk]
        rintro r os ⟨c9, ⟨⟨k, o, nn, v, q, m, ks, ss⟩, rfl, he⟩, rfl, i9⟩ hos
        simp (maxSteps := 10000000) only [tt, seval, h9, Cur.cs, baE, Val.row, Expr.row_mk]
        obtain ⟨on, hon⟩ : ∃ on : List Expr, on = [(Expr.mk k o nn v q m ks ss)] := ⟨_, rfl⟩
        have h8 : on.length ≤ 1 ∧ ((j : Nat) = 0 → on = []) ∧ ∀ e, e ∈ on → DrE d e := by rw [hon]; exact ⟨by simp, fun h0 => absurd h0 (by omega), fun e h => by rw [List.mem_singleton.1 h]; exact he⟩
       case' refine_2 =>
        try simp (maxSteps := 10000000) only [tt, seval, h9, Cur.cs, baE, Val.row]
        obtain ⟨on, hon⟩ : ∃ on : List Expr, on = [] := ⟨_, rfl⟩
        have h8 : on.length ≤ 1 ∧ ((j : Nat) = 0 → on = []) ∧ ∀ e, e ∈ on → DrE d e := by rw [hon]; exact ⟨by simp, fun _ => rfl, fun e h => by cases h⟩
        generalize hc0 : c8 = c9 at *
        have i9 := i8
      case' neg =>
       simp (maxSteps := 10000000) only [tt, seval, decide_eq_false hj, h9, Cur.cs, baE, Val.row]
       obtain ⟨on, hon⟩ : ∃ on : List Expr, on = [] := ⟨_, rfl⟩
       have h8 : on.length ≤ 1 ∧ ((j : Nat) = 0 → on = []) ∧ ∀ e, e ∈ on → DrE d e := by rw [hon]; exact ⟨by simp, fun _ => rfl, fun e h => by cases h⟩
       generalize hc0 : c6 = c9 at *
       have i9 := i6
      all_goals
       refine ⟨by kernel_rfl, ⟨by simp only [maxLen]; omega, by omega⟩, ?_⟩
       try simp (maxSteps := 10000000) only [tt, seval, h9, Cur.cs, baE, Val.row]
       try rw [wrap_id (n := (j : Int) + 1) (by omega) (by omega)]
       refine ⟨[.ren 90 10090], by decide, by decide, ?_⟩
       simp (maxSteps := 10000000) only [tt, seval, ghs, h9, Cur.cs, baE, Val.row]
       refine ⟨[(9000, .str c9.cs), (5, .str [.v (.bool di), .s 10045 it.length, .s 10090 (l ++ [(Source.mk tb sa on)]).length, .v (.slice none 0 0), .v (.slice none 0 0), .v (.int .i64 (-1))]), (10045, .arr 130 it.length (it.flatMap Item.row) FI), (10090, .arr 132 (l ++ [(Source.mk tb sa on)]).length ((l ++ [(Source.mk tb sa on)]).flatMap Source.row) none), (4, .str [.v (.bool false), .v (.slice none 0 0), .v (.slice none 0 0), .v (.slice none 0 0), .v (.slice none 0 0), .v (.int .i64 0)])], none, by simp only [Item.row_mk, Source.row_mk, SortKey.row_mk, Expr.row_mk, Val.row, lc, List.append_nil, List.flatMap_append, List.flatMap_cons, List.flatMap_nil, List.length_append, List.length_cons, List.length_nil, Cur.cs, hon, hsa0]; exact SubO.cons rfl (SubO.cons rfl (SubO.cons rfl (SubO.cons rfl (SubO.cons rfl (SubO.nil _))))), PoSub.none _, ⟨j + 1, l ++ [(Source.mk tb sa on)], c9, none, by simp, by simp [hl], by omega, fun x hx => by
        rcases Nat.lt_or_ge x l.length with h | h
        ·rw [List.getElem_append_left h]; exact hal x h
        ·have e : x = l.length := by simp at hx; omega
         subst e
         rw [List.getElem_append_right (Nat.le_refl _)]; simp only [Nat.sub_self, List.getElem_cons_zero]; exact SrOk.mk' htb hsa2 h8.1 (fun h0 => h8.2.1 (by omega)) h8.2.2, i9, rfl, rfl⟩, by simp only [ixS]; omega⟩
    ·have hfr1 : 1 ≤ l.length := by omega
     have hfr2 : l.length ≤ 2 := by omega
     have hfr := hal
     obtain ⟨fr, hfe⟩ : ∃ fr, fr = l := ⟨_, rfl⟩
     rw [← hfe] at hfr1 hfr2 ⊢
     subst hfe
     try simp (maxSteps := 10000000) only [tt, seval, Cur.cs, baE, Val.row]
     refine CallQ.intro (l1Once_d c3 i3 2) ?_ ?_ ?_
     ·decide
     ·simp (maxSteps := 10000000) only [tt, seval, Cur.cs, baE, Val.row]
     rintro r os ⟨c4, ⟨b4, rfl⟩, rfl, i4⟩ hos
     simp (maxSteps := 10000000) only [tt, seval, Cur.cs, baE, Val.row]
     refine And.intro (fun hb => ?_) (fun hb => ?_)
     case' refine_1 =>
      try simp (maxSteps := 10000000) only [tt, seval, Cur.cs, baE, Val.row]
      refine CallQ.intro (hE c4 i4) ?_ ?_ ?_
      ·decide
      ·simp (maxSteps := 10000000) only [tt, seval, Cur.cs, baE, Val.row, Expr.row_mk]
      rintro r os ⟨c5, ⟨⟨k, o, nn, v, q, m, ks, ss⟩, rfl, he⟩, rfl, i5⟩ hos
      simp (maxSteps := 10000000) only [tt, seval, Cur.cs, baE, Val.row, Expr.row_mk]
      obtain ⟨wh, hwh⟩ : ∃ wh : List Expr, wh = [(Expr.mk k o nn v q m ks ss)] := ⟨_, rfl⟩
      have hw1 : wh.length ≤ 1 := by rw [hwh]; simp
      have hw : ∀ e, e ∈ wh → DrE d e := by rw [hwh]; exact fun e h => by rw [List.mem_singleton.1 h]; exact he
     case' refine_2 =>
      try simp (maxSteps := 10000000) only [tt, seval, Cur.cs, baE, Val.row]
      obtain ⟨wh, hwh⟩ : ∃ wh : List Expr, wh = [] := ⟨_, rfl⟩
      have hw1 : wh.length ≤ 1 := by rw [hwh]; simp
      have hw : ∀ e, e ∈ wh → DrE d e := by rw [hwh]; exact fun e h => by cases h
      generalize hc0 : c4 = c5 at *
      have i5 := i4
     all_goals
      refine CallQ.intro (l1Once_d c5 i5 3) ?_ ?_ ?_
      ·decide
      ·simp (maxSteps := 10000000) only [tt, seval, Cur.cs, baE, Val.row]
      rintro r os ⟨cc, ⟨bc9, rfl⟩, rfl, ic9⟩ hos
      simp (maxSteps := 10000000) only [tt, seval, Cur.cs, baE, Val.row]
      refine And.intro (fun hb => ?_) (fun hb => ?_)
      case' refine_1 =>
       try simp (maxSteps := 10000000) only [tt, seval, Cur.cs, baE, Val.row]
       refine dDrawn.intro [105, 107] (.take 0 (.take 2 (.take 3 (.take 5 (.br 1 (.br 4 (.br 6 (.take 7 (.br 8 (.br 9 (.take 10 (.br 11 .done .nobr)) .nobr) .nobr)) .nobr) .nobr) (.br 4 (.br 1 (.br 6 (.take 7 (.br 8 (.br 9 (.take 10 (.br 11 .done .nobr)) .nobr) .nobr)) .nobr) (.br 6 (.take 1 (.take 7 (.br 8 (.br 9 (.take 10 (.br 11 .done .nobr)) .nobr) .nobr))) .nobr)) .nobr)))))) (by kernel_rfl) ?_
       simp (maxSteps := 10000000) only [tt, seval]
       all_goals try simp (maxSteps := 10000000) only [tt, seval, Cur.cs, baE, Val.row]
       all_goals repeat' first | refine brC ?_ ?_ | refine brC2 ?_ ?_
       all_goals
        refine CallQ.intro (hE cc ic9) ?_ ?_ ?_
        ·decide
        ·simp (maxSteps := 10000000) only [tt, seval, Cur.cs, baE, Val.row, Expr.row_mk]
         try decide
        rintro r os ⟨cd, ⟨⟨k2, o2, nn2, v2, q2, m2, ks2, ss2⟩, rfl, he2⟩, rfl, id9⟩ hos
        simp (maxSteps := 10000000) only [tt, seval, Cur.cs, baE, Val.row, Expr.row_mk]
       all_goals repeat' first | refine brC ?_ ?_ | refine brC2 ?_ ?_
       all_goals
        refine CallQ.intro (l1Once_d cd id9 2) ?_ ?_ ?_
        ·decide
        ·simp (maxSteps := 10000000) only [tt, seval, Cur.cs, baE, Val.row]
         try decide
        rintro r os ⟨ce, ⟨de, rfl⟩, rfl, ie⟩ hos
        simp (maxSteps := 10000000) only [tt, seval, Cur.cs, baE, Val.row]
       all_goals repeat' first | refine brA ?_ ?_ | refine brA2 ?_ ?_ | refine brA3 ?_ ?_
       all_goals
        refine ⟨by kernel_rfl, ⟨by simp only [maxLen]; omega, by omega⟩, ?_⟩
       all_goals
        try simp (maxSteps := 10000000) only [tt, seval, Cur.cs, baE, Val.row]
        obtain ⟨od, hod⟩ : ∃ od : List SortKey, od = [.mk (Expr.mk k2 o2 nn2 v2 q2 m2 ks2 ss2) de] := ⟨_, rfl⟩
        have ho1 : od.length ≤ 1 := by rw [hod]; simp
        have ho : ∀ k, k ∈ od → DrE d k.e := by rw [hod]; exact fun e h => by rw [List.mem_singleton.1 h]; exact he2
      case' refine_2 =>
       try simp (maxSteps := 10000000) only [tt, seval, Cur.cs, baE, Val.row]
       obtain ⟨od, hod⟩ : ∃ od : List SortKey, od = [] := ⟨_, rfl⟩
       have ho1 : od.length ≤ 1 := by rw [hod]; simp
       have ho : ∀ k, k ∈ od → DrE d k.e := by rw [hod]; exact fun e h => by cases h
       generalize hc0 : cc = ce at *
       have ie := ic9
      all_goals
       refine CallQ.intro (l1Once_d ce ie 4) ?_ ?_ ?_
       ·decide
       ·simp (maxSteps := 10000000) only [tt, seval, Cur.cs, baE, Val.row]
       rintro r os ⟨ca, ⟨ba, rfl⟩, rfl, ia⟩ hos
       simp (maxSteps := 10000000) only [tt, seval, Cur.cs, baE, Val.row]
       refine And.intro (fun hb => ?_) (fun hb => ?_)
       case' refine_1 =>
        try simp (maxSteps := 10000000) only [tt, seval, Cur.cs, baE, Val.row]
        refine callF [115] ?_
        simp (maxSteps := 10000000) only [tt, seval, Cur.cs, baE, Val.row, irow, List.length_cons, List.length_nil, List.flatMap_cons, List.flatMap_nil, lc]
        refine Call1.intro (l1PickInt_d ca ia [0, 1, 2, 9223372036854775807] (by decide)) ?_ ?_ ?_
        ·decide
        ·simp (maxSteps := 10000000) only [tt, seval, Cur.cs, baE, Val.row, irow, List.length_cons, List.length_nil, List.flatMap_cons, List.flatMap_nil, lc]
        rintro r os ⟨cb, ⟨l7, hl7, rfl⟩, rfl, ib⟩ hos
        simp (maxSteps := 10000000) only [tt, seval, Cur.cs, baE, Val.row, irow, List.length_cons, List.length_nil, List.flatMap_cons, List.flatMap_nil, lc]
        obtain ⟨lm, hlm⟩ : ∃ lm : Int, lm = l7 := ⟨_, rfl⟩
        have hl2 : -1 ≤ lm ∧ lm ≤ 9223372036854775807 := hlm ▸ (by decide : ∀ s ∈ ([0, 1, 2, 9223372036854775807] : List Int), -1 ≤ s ∧ s ≤ 9223372036854775807) l7 hl7
       case' refine_2 =>
        try simp (maxSteps := 10000000) only [tt, seval, Cur.cs, baE, Val.row]
        obtain ⟨lm, hlm⟩ : ∃ lm : Int, lm = -1 := ⟨_, rfl⟩
        have hl2 : -1 ≤ lm ∧ lm ≤ 9223372036854775807 := by rw [hlm]; decide
        generalize hc0 : ca = cb at *
        have ib := ia
       all_goals
        refine ⟨.ag (csOf (Query.mk di it fr wh od lm).row), [cb.cs], ⟨cb, ⟨_, rfl, DrQ.mk' hit1 hit2 hit hfr1 hfr2 hfr hw1 hw ho1 ho hl2.1 hl2.2⟩, rfl, ib⟩, endOk ?_⟩
        simp (maxSteps := 10000000) only [tt, seval, hwh, hod, hlm, Query.row_mk, Item.row_mk, Source.row_mk, SortKey.row_mk, Expr.row_mk, Val.row, lc, List.append_nil, List.flatMap_append, List.flatMap_cons, List.flatMap_nil, List.length_append, List.length_cons, List.length_nil, Cur.cs, baE, Val.row]
theorem drawn_all (d : Nat) : d ≤ 50 → SpX d ∧ SpQy d := by
 induction d using Nat.strongRecOn with
 | _ d ih =>
  intro h
  have hx : SpX d := l7Expr_step d h (fun d2 e n m hm hn c h0 => by
   subst e hm
   exact l7Kids_step d2 (by omega) (ih d2 (by omega) (by omega)).1 n hn c h0) fun d3 e => (ih d3 (by omega) (by omega)).2
  exact ⟨hx, l7Query_step d h hx⟩
theorem big_d (bs : List Int) : Cl Tryz.prog 6 [.c (.sl bs.length (bs.flatMap brow) none)] [] fun r _ => r = vb (decide ((1048576 : Int) < (bs.length : Int))) := by
 refine cl_of_d follows_mixed false Tryz.func6 rfl (by kernel_rfl) ?_
 simp only [Tryz.f6, tt, seval]
 refine fun _ => ?_
 exact ⟨_, _, rfl, end0 rfl⟩
end Go.Proofs.YtabhiapifcanoaaGreatDoor
