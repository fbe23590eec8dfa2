/-
  The program's printer.
  Conditions: none.
-/
import Derived.Test.YtoegnikpokgbfaaGreatDoorPCJ1
set_option linter.unusedVariables false
set_option linter.unusedSimpArgs false
set_option linter.unusedSectionVars false
set_option linter.unnecessarySimpa false
set_option maxRecDepth 8000
namespace Go.Proofs.YtoegnikpokgbfaaGreatDoor
open Go Go.Dv
open Go.Vc (D shrI xorI andI and255)
open Go.RowKit (Below)
def PrC (fn : FuncId) (args : List S) (full : Bool) (l : List Tok) : Prop := ∀ out : List Tok, out.length + l.length ≤ 1000000 → Cl Tryz.prog fn (.c (.p 9000 0) :: args) [[.ow 61 (out).length ((out).flatMap Tok.row) none, .v (.bool full)]] fun r os => r = .tu [] ∧ os = [[.ow 61 (out ++ l).length ((out ++ l).flatMap Tok.row) none, .v (.bool full)]]
theorem put_d (full : Bool) (k : Int) (s : ByteArray) : PrC 141 [vi k, vs s] full ([(Tok.mk k s 0)]) := by
 intro out hroom
 simp only [ll] at hroom
 refine cl_of_d follows_mixed false Tryz.func141 rfl (by kernel_rfl) ?_
 simp only [Tryz.f141, tt, seval]
 refine ⟨by kernel_rfl, ⟨by simp only [maxLen]; (try simp only [ll] at *); omega, by (try simp only [ll] at *); omega⟩, ?_⟩
 rw [tok1 (out), len1 (out) (Tok.mk k s 0)]
 refine ⟨.tu [], _, ⟨rfl, osE (l := out ++ [(Tok.mk k s 0)]) (by rfl)⟩, endOk ?_⟩
 simp only [tt, seval]
theorem name_d (full : Bool) (s : ByteArray) : PrC 80 [vs s] full ([nT s]) := by
 intro out hroom
 simp only [ll] at hroom
 refine cl_of_d follows_mixed false Tryz.func80 rfl (by kernel_rfl) ?_
 simp only [Tryz.f80, tt, seval]
 refine cS (put_d full 2 s out (by (try simp only [ll] at *); omega)) (by decide) ?_ ?_ <;> simp only [tt, seval]
 refine ⟨.tu [], _, ⟨rfl, osE (l := out ++ [(Tok.mk 2 s 0)]) (by rfl)⟩, endOk ?_⟩
 simp only [tt, seval]
theorem sign_d (full : Bool) (s : ByteArray) : PrC 86 [vs s] full ([gT s]) := by
 intro out hroom
 simp only [ll] at hroom
 refine cl_of_d follows_mixed false Tryz.func86 rfl (by kernel_rfl) ?_
 simp only [Tryz.f86, tt, seval]
 refine cS (put_d full 5 s out (by (try simp only [ll] at *); omega)) (by decide) ?_ ?_ <;> simp only [tt, seval]
 refine ⟨.tu [], _, ⟨rfl, osE (l := out ++ [(Tok.mk 5 s 0)]) (by rfl)⟩, endOk ?_⟩
 simp only [tt, seval]
theorem comma_d (full : Bool) (i : Nat) : PrC 87 [vi i] full (cmL i) := by
 intro out hroom
 refine cl_of_d follows_mixed false Tryz.func87 rfl (by kernel_rfl) ?_
 simp only [Tryz.f87, tt, seval]
 refine And.intro (fun hc => ?_) (fun hc => ?_)
 ·rw [cmL, if_pos (by omega)] at hroom ⊢
  simp only [ll] at hroom
  refine cS (sign_d full ⟨#[44]⟩ out (by (try simp only [ll] at *); omega)) (by decide) ?_ ?_ <;> simp only [tt, seval]
  refine ⟨.tu [], _, ⟨rfl, osE (l := out ++ [gT ⟨#[44]⟩]) (by rfl)⟩, endOk ?_⟩
  simp only [tt, seval]
 ·rw [cmL, if_neg (by omega)] at hroom ⊢
  simp only [tt, seval]
  refine ⟨.tu [], _, ⟨rfl, osE (l := out) (by first | rfl | exact (List.append_nil _).symm)⟩, endOk ?_⟩
  simp only [tt, seval]
theorem Split_k (w : ByteArray) (l : List ByteArray) (hw : w.size ≤ 1000) (hl : l ≠ []) (hs : ∀ s ∈ l, s.size ≤ 1000) (hn : l.length ≤ 1000) (h1 : Lib.splitB ⟨#[32]⟩ 0 (Lib.countB w ⟨#[32]⟩) w = l) (h2 : Lib.countB w ⟨#[32]⟩ + 1 = l.length) : Cl Tryz.prog 145 [vs w, vs ⟨#[32]⟩] [] fun r _ => r = .c (.sl l.length (l.flatMap srow) none) :=
 Cl.ofNew (by kernel_rfl) [.string w, .string ⟨#[32]⟩] fun w0 hg => by
  obtain ⟨m, hm⟩ := gl_max hg
  refine (Any.strings_Split Tryz.lays146 (by kernel_rfl) w ⟨#[32]⟩ m w0 (by omega) hm (by decide)).mono ?_
  rintro e w' ⟨rfl, rfl⟩
  rw [h1, h2]
  refine ⟨_, _, rfl, rfl, by rfl, fun β => strs_cell w0 _ _ l hl (fun s hs' => Nat.le_trans (hs s hs') (by decide)) (Nat.le_trans hn (by decide)) β (Go.heap_alloc_new w0 _), ⟨rfl, rfl, rfl, by simp, fun i hi => Go.heap_alloc_old w0 _ hi⟩⟩
def wT (s : ByteArray) : Tok := ⟨1, s, 0⟩
theorem keys_d (full : Bool) (w : ByteArray) (l : List ByteArray) (hll : l.length ≤ 1000) (hsp : Cl Tryz.prog 145 [vs w, vs ⟨#[32]⟩] [] fun r _ => r = .c (.sl l.length (l.flatMap srow) none)) : PrC 83 [vs w] full (l.map wT) := by
 intro out hroom
 rw [List.length_map] at hroom
 refine cl_of_d follows_mixed false Tryz.func83 rfl (by kernel_rfl) ?_
 simp only [Tryz.f83, tt, seval]
 refine cZ (hsp) (by decide) ?_ ?_ <;> simp only [tt, seval]
 refine fun _ => ?_
 refine dLoop.gh [.ren 9200 10000015] ⟨by decide, by decide, ?_⟩
 refine dLoop0.intro (fun f L p => ∃ (i : Nat) (es : List Tok), f 9 = vi i ∧ i ≤ l.length ∧ es = out ++ (l.take i).map wT ∧ L = [(9000, .str [.s 10000015 (es).length, .v (.bool full)]), (10000015, .arr 61 (es).length ((es).flatMap Tok.row) none)] ∧ p = none) (fun f _ _ => (l.length - ixS (f 9)).toNat) [(9000, .str [.s 10000015 (out).length, .v (.bool full)]), (10000015, .arr 61 (out).length ((out).flatMap Tok.row) none)] none ⟨SubO.cons rfl (SubO.cons rfl (SubO.nil _)), PoSub.none _, ?_⟩ ?_
 ·simp only [tt, seval]
  exact ⟨0, out, rfl, by omega, (List.append_nil _).symm, rfl⟩
 ·rintro g' L p ⟨i, es, h9, hi, hes0, rfl, rfl⟩
  simp only [tt, seval] at h9
  simp only [tt, seval, h9, Int.ofNat_lt]
  refine And.intro (fun hlt => ?_) (fun hge => ?_)
  ·have hel : es.length = out.length + i := by rw [hes0, List.length_append, List.length_map, List.length_take]; omega
   refine ⟨by omega, by omega, _, drop_row srow_len (List.getElem?_eq_getElem hlt), srow_ne _ _, ?_⟩
   simp only [tt, seval, srow]
   refine cS (put_d full 1 l[i] es (by simp only [ll]; omega)) (by decide) ?_ ?_ <;> simp only [tt, seval, h9]
   try rw [wrS i (by omega)]
   exact ⟨[(9000, .str [.s 10000015 (es ++ [Tok.mk 1 l[i] 0]).length, .v (.bool full)]), (10000015, .arr 61 (es ++ [Tok.mk 1 l[i] 0]).length ((es ++ [Tok.mk 1 l[i] 0]).flatMap Tok.row) none)], none, SubO.cons rfl (SubO.cons rfl (SubO.nil _)), PoSub.none _, ⟨i + 1, es ++ [Tok.mk 1 l[i] 0], rfl, by omega, by rw [hes0, List.take_succ_eq_append_getElem hlt, List.map_append, List.append_assoc]; rfl, rfl, rfl⟩, by simp only [ixS]; omega⟩
  ·have hie : i = l.length := by omega
   subst hie
   rw [List.take_length] at hes0
   subst hes0
   refine ⟨.tu [], _, ⟨rfl, osE (l := out ++ l.map wT) (by rfl)⟩, endOk ?_⟩
   simp only [tt, seval]
theorem kw_split : ∀ k : Fin 29, 1 ≤ k.1 → Lib.splitB ⟨#[32]⟩ 0 (Lib.countB (kw k.1) ⟨#[32]⟩) (kw k.1) = [kw k.1] ∧ Lib.countB (kw k.1) ⟨#[32]⟩ = 0 := by decide +kernel
theorem keys_k (full : Bool) (k : Nat) (h1 : 1 ≤ k) (h2 : k ≤ 28) : PrC 83 [vs (kw k)] full ([kT k]) := by
 obtain ⟨a, b⟩ := kw_split ⟨k, by omega⟩ h1
 have := kw_small k
 exact keys_d full (kw k) [kw k] (by simp) (Split_k (kw k) [kw k] (by omega) (by simp) (fun s hs => by rw [List.mem_singleton.1 hs]; omega) (by simp) a (by rw [b]; rfl))
theorem kORDERBY (full : Bool) : PrC 83 [vs ⟨#[79, 82, 68, 69, 82, 32, 66, 89]⟩] full ([kT 7, kT 8]) := keys_d full ⟨#[79, 82, 68, 69, 82, 32, 66, 89]⟩ [kw 7, kw 8] (by decide) (Split_k ⟨#[79, 82, 68, 69, 82, 32, 66, 89]⟩ [kw 7, kw 8] (by decide) (by decide) (by decide) (by decide) (by decide +kernel) (by decide +kernel))
theorem kSELECT (full : Bool) : PrC 83 [vs ⟨#[83, 69, 76, 69, 67, 84]⟩] full ([kT 1]) := keys_k full 1 (by decide) (by decide)
theorem kDISTINCT (full : Bool) : PrC 83 [vs ⟨#[68, 73, 83, 84, 73, 78, 67, 84]⟩] full ([kT 2]) := keys_k full 2 (by decide) (by decide)
theorem kFROM (full : Bool) : PrC 83 [vs ⟨#[70, 82, 79, 77]⟩] full ([kT 3]) := keys_k full 3 (by decide) (by decide)
theorem kJOIN (full : Bool) : PrC 83 [vs ⟨#[74, 79, 73, 78]⟩] full ([kT 4]) := keys_k full 4 (by decide) (by decide)
theorem kON (full : Bool) : PrC 83 [vs ⟨#[79, 78]⟩] full ([kT 5]) := keys_k full 5 (by decide) (by decide)
theorem kWHERE (full : Bool) : PrC 83 [vs ⟨#[87, 72, 69, 82, 69]⟩] full ([kT 6]) := keys_k full 6 (by decide) (by decide)
theorem kDESC (full : Bool) : PrC 83 [vs ⟨#[68, 69, 83, 67]⟩] full ([kT 10]) := keys_k full 10 (by decide) (by decide)
theorem kLIMIT (full : Bool) : PrC 83 [vs ⟨#[76, 73, 77, 73, 84]⟩] full ([kT 11]) := keys_k full 11 (by decide) (by decide)
theorem kAS (full : Bool) : PrC 83 [vs ⟨#[65, 83]⟩] full ([kT 12]) := keys_k full 12 (by decide) (by decide)
theorem kAND (full : Bool) : PrC 83 [vs ⟨#[65, 78, 68]⟩] full ([kT 13]) := keys_k full 13 (by decide) (by decide)
theorem kOR (full : Bool) : PrC 83 [vs ⟨#[79, 82]⟩] full ([kT 14]) := keys_k full 14 (by decide) (by decide)
theorem kNOT (full : Bool) : PrC 83 [vs ⟨#[78, 79, 84]⟩] full ([kT 15]) := keys_k full 15 (by decide) (by decide)
theorem kIS (full : Bool) : PrC 83 [vs ⟨#[73, 83]⟩] full ([kT 16]) := keys_k full 16 (by decide) (by decide)
theorem kIN (full : Bool) : PrC 83 [vs ⟨#[73, 78]⟩] full ([kT 17]) := keys_k full 17 (by decide) (by decide)
theorem kBETWEEN (full : Bool) : PrC 83 [vs ⟨#[66, 69, 84, 87, 69, 69, 78]⟩] full ([kT 18]) := keys_k full 18 (by decide) (by decide)
theorem kEXISTS (full : Bool) : PrC 83 [vs ⟨#[69, 88, 73, 83, 84, 83]⟩] full ([kT 19]) := keys_k full 19 (by decide) (by decide)
theorem kNULL (full : Bool) : PrC 83 [vs ⟨#[78, 85, 76, 76]⟩] full ([kT 20]) := keys_k full 20 (by decide) (by decide)
end Go.Proofs.YtoegnikpokgbfaaGreatDoor
set_option maxRecDepth 8000
namespace Go.Proofs.YtoegnikpokgbfaaGreatDoor
open Go Go.Dv
open Go.Vc (D shrI xorI andI and255)
theorem not_d (full is : Bool) : PrC 85 [vb is] full (notL is) := by
 intro out hroom
 cases is
 case true =>
  have hroom : out.length + ([kT 15] : List Tok).length ≤ 1000000 := hroom
  refine cl_of_d follows_mixed false Tryz.func85 rfl (by kernel_rfl) ?_
  simp only [Tryz.f85, tt, seval]
  refine cS (kNOT full out hroom) (by decide) ?_ ?_ <;> simp only [tt, seval]
  refine ⟨.tu [], _, ⟨rfl, osE (l := out ++ [kT 15]) (by rfl)⟩, endOk ?_⟩
  simp only [tt, seval]
 case false =>
  refine cl_of_d follows_mixed false Tryz.func85 rfl (by kernel_rfl) ?_
  simp only [Tryz.f85, tt, seval]
  refine ⟨.tu [], _, ⟨rfl, osE (l := out) (by exact (List.append_nil _).symm)⟩, endOk ?_⟩
  simp only [tt, seval]
theorem valT_key {v : Val} (h : valOk v = true) (h1 : ¬ v.kind = 1) (h2 : ¬ v.kind = 2) : ∃ k, 1 ≤ k ∧ k ≤ 28 ∧ valT v = kw k ∧ litT v = kT k := by
 have hv := h
 unfold valOk at h
 by_cases h0 : v.kind = 0
 ·exact ⟨20, by decide, by decide, by unfold valT; simp [h0, hv]; rfl, by unfold litT; simp [h0]⟩
 ·rw [if_neg h0, if_neg h1, if_neg h2] at h
  by_cases h3 : v.kind = 3
  ·by_cases h4 : v.num = 1
   ·exact ⟨21, by decide, by decide, by unfold valT; simp [h3, h4, hv]; rfl, by unfold litT; simp [h3, h4]⟩
   ·exact ⟨22, by decide, by decide, by unfold valT; simp [h3, h4, hv]; rfl, by unfold litT; simp [h3, h4]⟩
  ·rw [if_neg h3] at h; cases h
theorem lit_d (full : Bool) (v : Val) (h : litB v = true) (h0 : -9223372036854775808 ≤ v.num) (h1 : v.num ≤ 9223372036854775807) : PrC 78 [.ag (csOf v.row)] full ([litT v]) := by
 intro out hroom
 have hroom : out.length + 1 ≤ 1000000 := hroom
 simp only [litB, Bool.and_eq_true, decide_eq_true_eq] at h
 rw [Val.row]
 refine cl_of_d follows_mixed false Tryz.func78 rfl (by kernel_rfl) ?_
 simp only [Tryz.f78, tt, seval]
 refine And.intro (fun k1 => ?_) (fun k1 => ?_)
 ·have hl : litT v = ⟨3, itoaB v.num, 0⟩ := by rw [litT, if_pos k1]; rfl
  rw [hl]
  refine cZ (iDigits_d v.num h0 h1) (by decide) ?_ ?_ <;> simp only [tt, seval]
  refine cS (put_d full 3 (itoaB v.num) out (by (try simp only [ll] at *); omega)) (by decide) ?_ ?_ <;> simp only [tt, seval]
  refine ⟨.tu [], _, ⟨rfl, osE (l := out ++ [(Tok.mk 3 (itoaB v.num) 0)]) (by rfl)⟩, endOk ?_⟩
  simp only [tt, seval]
 refine And.intro (fun k2 => ?_) (fun k2 => ?_)
 ·have hl : litT v = ⟨4, v.text, 0⟩ := by rw [litT, if_neg k1, if_pos k2]
  rw [hl]
  refine cS (put_d full 4 v.text out (by (try simp only [ll] at *); omega)) (by decide) ?_ ?_ <;> simp only [tt, seval]
  refine ⟨.tu [], _, ⟨rfl, osE (l := out ++ [(Tok.mk 4 v.text 0)]) (by rfl)⟩, endOk ?_⟩
  simp only [tt, seval]
 obtain ⟨k, b1, b2, hv, hl⟩ := valT_key h.1 k1 k2
 rw [hl]
 refine cZ (iValueText_d v h0 h1 (by omega)) (by decide) ?_ ?_ <;> simp only [tt, seval, Val.row]
 rw [hv]
 refine cS (keys_k full k b1 b2 out (by (try simp only [ll] at *); omega)) (by decide) ?_ ?_ <;> simp only [tt, seval]
 refine ⟨.tu [], _, ⟨rfl, osE (l := out ++ [kT k]) (by rfl)⟩, endOk ?_⟩
 simp only [tt, seval]
theorem qualified_d (full : Bool) (q : ByteArray) : PrC 79 [vs q] full (qualL q) := by
 intro out hroom
 refine cl_of_d follows_mixed false Tryz.func79 rfl (by kernel_rfl) ?_
 simp only [Tryz.f79, tt, seval]
 refine And.intro (fun hq => ?_) (fun hq => ?_)
 ·have hq : ¬ q = ⟨#[]⟩ := by simpa using hq
  rw [qualL, if_neg hq] at hroom ⊢
  simp only [ll] at hroom
  refine cS (name_d full q out (by (try simp only [ll] at *); omega)) (by decide) ?_ ?_ <;> simp only [tt, seval]
  refine cS (sign_d full ⟨#[46]⟩ (out ++ [nT q]) (by (try simp only [ll] at *); omega)) (by decide) ?_ ?_ <;> simp only [tt, seval]
  refine ⟨.tu [], _, ⟨rfl, osE (l := out ++ [nT q] ++ [gT ⟨#[46]⟩]) (by simp [dtT])⟩, endOk ?_⟩
  simp only [tt, seval]
 ·have hq : q = ⟨#[]⟩ := by simpa using hq
  rw [qualL, if_pos hq] at hroom ⊢
  simp only [tt, seval]
  refine ⟨.tu [], _, ⟨rfl, osE (l := out) (by first | rfl | exact (List.append_nil _).symm)⟩, endOk ?_⟩
  simp only [tt, seval]
theorem as_d (full : Bool) (q : ByteArray) : PrC 208 [vs q] full (asL q) := by
 intro out hroom
 refine cl_of_d follows_mixed false Tryz.func208 rfl (by kernel_rfl) ?_
 simp only [Tryz.f208, tt, seval]
 refine And.intro (fun hq => ?_) (fun hq => ?_)
 ·have hq : ¬ q = ⟨#[]⟩ := by simpa using hq
  rw [asL, if_neg hq] at hroom ⊢
  simp only [ll] at hroom
  refine cS (kAS full out (by (try simp only [ll] at *); omega)) (by decide) ?_ ?_ <;> simp only [tt, seval]
  refine cS (name_d full q (out ++ [kT 12]) (by (try simp only [ll] at *); omega)) (by decide) ?_ ?_ <;> simp only [tt, seval]
  refine ⟨.tu [], _, ⟨rfl, osE (l := out ++ [kT 12] ++ [nT q]) (by simp)⟩, endOk ?_⟩
  simp only [tt, seval]
 ·have hq : q = ⟨#[]⟩ := by simpa using hq
  rw [asL, if_pos hq] at hroom ⊢
  simp only [tt, seval]
  refine ⟨.tu [], _, ⟨rfl, osE (l := out) (by first | rfl | exact (List.append_nil _).symm)⟩, endOk ?_⟩
  simp only [tt, seval]
theorem op1 : opT 1 = ⟨#[79, 82]⟩ := rfl
theorem op2 : opT 2 = ⟨#[65, 78, 68]⟩ := rfl
theorem op15 : opT 15 = ⟨#[78, 79, 84]⟩ := rfl
theorem operator_d (full : Bool) (op : Int) : PrC 81 [vi op] full ([opTk op]) := by
 intro out hroom
 have hroom : out.length + 1 ≤ 1000000 := hroom
 by_cases h1 : op = 1
 ·subst h1
  refine cl_of_d follows_mixed false Tryz.func81 rfl (by kernel_rfl) ?_
  simp only [Tryz.f81, tt, seval]
  refine cZ (iOpText_d 1) (by decide) ?_ ?_ <;> simp only [tt, seval]
  refine cS (kOR full out (by (try simp only [ll] at *); omega)) (by decide) ?_ ?_ <;> simp only [tt, seval, op1]
  refine ⟨.tu [], _, ⟨rfl, osE (l := out ++ [kT 14]) (by rfl)⟩, endOk ?_⟩
  simp only [tt, seval]
 by_cases h2 : op = 2
 ·subst h2
  refine cl_of_d follows_mixed false Tryz.func81 rfl (by kernel_rfl) ?_
  simp only [Tryz.f81, tt, seval]
  refine cZ (iOpText_d 2) (by decide) ?_ ?_ <;> simp only [tt, seval]
  refine cS (kAND full out (by (try simp only [ll] at *); omega)) (by decide) ?_ ?_ <;> simp only [tt, seval, op2]
  refine ⟨.tu [], _, ⟨rfl, osE (l := out ++ [kT 13]) (by rfl)⟩, endOk ?_⟩
  simp only [tt, seval]
 by_cases h3 : op = 15
 ·subst h3
  refine cl_of_d follows_mixed false Tryz.func81 rfl (by kernel_rfl) ?_
  simp only [Tryz.f81, tt, seval]
  refine cZ (iOpText_d 15) (by decide) ?_ ?_ <;> simp only [tt, seval]
  refine cS (kNOT full out (by (try simp only [ll] at *); omega)) (by decide) ?_ ?_ <;> simp only [tt, seval, op15]
  refine ⟨.tu [], _, ⟨rfl, osE (l := out ++ [kT 15]) (by rfl)⟩, endOk ?_⟩
  simp only [tt, seval]
 refine cl_of_d follows_mixed false Tryz.func81 rfl (by kernel_rfl) ?_
 simp only [Tryz.f81, tt, seval]
 simp only [tt, seval, decide_eq_false h1, decide_eq_false h2, h3]
 refine cZ (iOpText_d op) (by decide) ?_ ?_ <;> simp only [tt, seval]
 refine cS (sign_d full (opT op) out (by (try simp only [ll] at *); omega)) (by decide) ?_ ?_ <;> simp only [tt, seval]
 refine ⟨.tu [], _, ⟨rfl, osE (l := out ++ [gT (opT op)]) (by rw [opTk, if_neg (fun h => h.elim h1 fun h => h.elim h2 h3)]; rfl)⟩, endOk ?_⟩
 simp only [tt, seval]
def PrE (full : Bool) (e : Expr) (l : List Tok) : Prop := PrC 36 [.ag (csOf e.row)] full (l)
def PrQ (full : Bool) (q : Query) (l : List Tok) : Prop := PrC 146 [.ag (csOf q.row)] full (l)
theorem sub_d (full : Bool) (q : Query) (l : List Tok) (h : PrQ full q l) : PrC 84 [.ag (csOf q.row)] full (lpT :: (l ++ [rpT])) := by
 intro out hroom
 simp only [ll] at hroom
 have h : PrC 146 [.ag (csOf q.row)] full (l) := h
 obtain ⟨distinct, items, from_, where_, order, limit⟩ := q
 rw [Query.row_mk] at h ⊢
 refine cl_of_d follows_mixed false Tryz.func84 rfl (by kernel_rfl) ?_
 simp only [Tryz.f84, tt, seval]
 refine cS (sign_d full ⟨#[40]⟩ out (by (try simp only [ll] at *); omega)) (by decide) ?_ ?_ <;> simp only [tt, seval]
 refine cS (h (out ++ [gT ⟨#[40]⟩]) (by (try simp only [ll] at *); omega)) (by decide) ?_ ?_ <;> simp only [tt, seval]
 refine cS (sign_d full ⟨#[41]⟩ (out ++ [gT ⟨#[40]⟩] ++ l) (by (try simp only [ll] at *); omega)) (by decide) ?_ ?_ <;> simp only [tt, seval]
 refine ⟨.tu [], _, ⟨rfl, osE (l := out ++ [gT ⟨#[40]⟩] ++ l ++ [gT ⟨#[41]⟩]) (by simp [lpT, rpT])⟩, endOk ?_⟩
 simp only [tt, seval]
set_option maxHeartbeats 1000000 in
theorem kid_d (kind op : Int) (not : Bool) (val : Val) (qual name : ByteArray) (kids : List Expr) (sub : List Query) (full : Bool) (k : Nat) (hk : k < kids.length) (l : List Tok) (hx : PrE full kids[k] l) : PrC 82 [.ag (csOf (Expr.mk kind op not val qual name kids sub).row), vi k] full (parL (wrF full kind op kids k) l) := by
 intro out hroom
 obtain ⟨it, hit⟩ : ∃ it, it = kids[k] := ⟨_, rfl⟩
 have hw : (wrF full kind op kids k) = (wrapB kind op kids k || (full && decide (lvE it < 9))) := by rw [wrF, List.getD_eq_getElem?_getD, List.getElem?_eq_getElem hk, hit]; rfl
 rw [hw] at hroom ⊢
 rw [← hit] at hx
 have hx : PrC 36 [.ag (csOf it.row)] full (l) := hx
 have hx0 : kids[k]? = some it := by rw [hit]; exact List.getElem?_eq_getElem hk
 have i0 : ((0 : Int) ≤ (k : Int)) = True := eq_true (by omega)
 have iL : ((k : Int) < (kids.length : Int)) = True := eq_true (by omega)
 have hlb : 0 ≤ lvE it ∧ lvE it ≤ 9 := by unfold lvE; exact lv_bounds _ _
 have hlv := iLevelOf_d it
 rw [Expr.row_mk]
 refine cl_of_d follows_mixed false Tryz.func82 rfl (by kernel_rfl) ?_
 simp only [Tryz.f82, tt, seval]
 refine cZ (iWrapped_d kind op not val qual name kids sub k hk) (by decide) ?_ ?_ <;> simp only [tt, seval, Expr.row_mk]
 cases hw1 : wrapB kind op kids k
 case true =>
  rw [hw1] at hroom
  simp only [tt, seval]
  have hroom : out.length + (lpT :: (l ++ [rpT])).length ≤ 1000000 := hroom
  simp only [ll] at hroom
  refine cS (sign_d full ⟨#[40]⟩ out (by (try simp only [ll] at *); omega)) (by decide) ?_ ?_ <;> simp only [tt, seval, idxAt hx0 Expr.row_len, i0, iL, Expr.tk, Expr.row_len]
  refine cS (hx (out ++ [gT ⟨#[40]⟩]) (by (try simp only [ll] at *); omega)) (by decide) ?_ ?_ <;> simp only [tt, seval]
  refine cS (sign_d full ⟨#[41]⟩ (out ++ [gT ⟨#[40]⟩] ++ l) (by (try simp only [ll] at *); omega)) (by decide) ?_ ?_ <;> simp only [tt, seval]
  refine ⟨.tu [], _, ⟨rfl, osE (l := out ++ [gT ⟨#[40]⟩] ++ l ++ [gT ⟨#[41]⟩]) (by simp [parL, lpT, rpT])⟩, endOk ?_⟩
  simp only [tt, seval]
 case false =>
  simp only [tt, seval]
  cases full
  case false =>
   rw [hw1] at hroom
   simp only [tt, seval, idxAt hx0 Expr.row_len, i0, iL, Expr.tk, Expr.row_len]
   have hroom : out.length + l.length ≤ 1000000 := hroom
   refine cS (hx out hroom) (by decide) ?_ ?_ <;> simp only [tt, seval]
   refine ⟨.tu [], _, ⟨rfl, osE (l := out ++ l) (by rfl)⟩, endOk ?_⟩
   simp only [tt, seval]
  case true =>
   simp only [tt, seval, idxAt hx0 Expr.row_len, i0, iL, Expr.tk, Expr.row_len]
   refine cZ (hlv) (by decide) ?_ ?_ <;> simp only [tt, seval, idxAt hx0 Expr.row_len, i0, iL, Expr.tk, Expr.row_len]
   rw [hw1] at hroom
   by_cases h9 : lvE it = 9
   ·rw [decide_eq_false (show ¬ lvE it < 9 by omega)] at hroom ⊢
    simp only [tt, seval, h9]
    have hroom : out.length + l.length ≤ 1000000 := hroom
    refine cS (hx out hroom) (by decide) ?_ ?_ <;> simp only [tt, seval]
    refine ⟨.tu [], _, ⟨rfl, osE (l := out ++ l) (by rfl)⟩, endOk ?_⟩
    simp only [tt, seval]
   ·rw [decide_eq_true (show lvE it < 9 by omega)] at hroom ⊢
    simp only [tt, seval, h9]
    have hroom : out.length + (lpT :: (l ++ [rpT])).length ≤ 1000000 := hroom
    simp only [ll] at hroom
    refine cS (sign_d true ⟨#[40]⟩ out (by (try simp only [ll] at *); omega)) (by decide) ?_ ?_ <;> simp only [tt, seval, idxAt hx0 Expr.row_len, i0, iL, Expr.tk, Expr.row_len]
    refine cS (hx (out ++ [gT ⟨#[40]⟩]) (by (try simp only [ll] at *); omega)) (by decide) ?_ ?_ <;> simp only [tt, seval]
    refine cS (sign_d true ⟨#[41]⟩ (out ++ [gT ⟨#[40]⟩] ++ l) (by (try simp only [ll] at *); omega)) (by decide) ?_ ?_ <;> simp only [tt, seval]
    refine ⟨.tu [], _, ⟨rfl, osE (l := out ++ [gT ⟨#[40]⟩] ++ l ++ [gT ⟨#[41]⟩]) (by simp [parL, lpT, rpT])⟩, endOk ?_⟩
    simp only [tt, seval]
theorem where_d (full : Bool) (l : List Expr) (g : Expr → List Tok) (hll : l.length ≤ 1048576) (hg : ∀ x ∈ l, PrE full x (g x)) : PrC 210 [.c (.sl l.length (l.flatMap Expr.row) none)] full (whL g l) := by
 intro out hroom
 refine cl_of_d follows_mixed false Tryz.func210 rfl (by kernel_rfl) ?_
 simp only [Tryz.f210, tt, seval]
 refine fun _ => ?_
 rcases hL : l with _ | ⟨e, r⟩
 ·rw [hL] at hroom
  simp only [tt, seval]
  refine ⟨.tu [], _, ⟨rfl, osE (l := out) (by exact (List.append_nil _).symm)⟩, endOk ?_⟩
  simp only [tt, seval]
 ·rw [← hL]
  have hlen : l.length = r.length + 1 := by rw [hL]; rfl
  have hw : whL g l = kT 6 :: g e := by rw [hL]; rfl
  have hx : PrC 36 [.ag (csOf e.row)] full (g e) := hg e (by rw [hL]; simp)
  have hpos : ((0 : Int) < l.length) = True := eq_true (by omega)
  rw [hw] at hroom ⊢
  clear hw
  generalize g e = le at *
  simp only [ll] at hroom
  simp only [tt, seval, hpos]
  refine cS (kWHERE full out (by (try simp only [ll] at *); omega)) (by decide) ?_ ?_ <;> simp only [tt, seval, hpos, idxH hL Expr.row_len, takeD_row (Expr.row_len e), Expr.row_len]
  refine cS (hx (out ++ [kT 6]) (by (try simp only [ll] at *); omega)) (by decide) ?_ ?_ <;> simp only [tt, seval]
  refine ⟨.tu [], _, ⟨rfl, osE (l := out ++ [kT 6] ++ le) (by simp)⟩, endOk ?_⟩
  simp only [tt, seval]
set_option maxHeartbeats 2000000 in
theorem source_d (full : Bool) (i : Nat) (s : Source) (g : Expr → List Tok) (hll : s.on.length ≤ 1048576) (hg : ∀ x ∈ s.on, PrE full x (g x)) : PrC 209 [vi i, .ag (csOf s.row)] full (srcT g i s) := by
 intro out hroom
 obtain ⟨table, as_, on⟩ := s
 have hll : on.length ≤ 1048576 := hll
 have hg : ∀ x ∈ on, PrE full x (g x) := hg
 have hol : (on.length ≤ 9223372036854775807) = True := eq_true (by omega)
 rw [Source.row_mk]
 rcases hL : on with _ | ⟨e, r⟩
 ·have hle : onL g on = [] := by rw [hL]; rfl
  have hlen : on.length = 0 := by rw [hL]; rfl
  try rw [← hL]
  have op : ¬ (0 : Int) < on.length := by omega
  by_cases hi0 : i = 0
  ·have ip : ¬ (0 : Int) < i := by omega
   have hsrc : srcT g i (Source.mk table as_ on) = [] ++ (nT table :: (asL as_ ++ [])) := by
    show (if 0 < i then (if 0 < on.length then [kT 4] else [cmT]) else []) ++ (nT table :: (asL as_ ++ onL g on)) = _
    rw [hle]
    rw [if_neg (by omega)]
   rw [hsrc] at hroom ⊢
   simp only [ll] at hroom
   refine cl_of_d follows_mixed false Tryz.func209 rfl (by kernel_rfl) ?_
   simp only [Tryz.f209, tt, seval]
   simp only [tt, seval, ip]
   have hcm : cmL i = [] := if_neg (by omega)
   have hcom := comma_d full i
   rw [hcm] at hcom
   refine cS (hcom out (by (try simp only [ll] at *); omega)) (by decide) ?_ ?_ <;> simp only [tt, seval]
   refine cS (name_d full table (out ++ []) (by (try simp only [ll] at *); omega)) (by decide) ?_ ?_ <;> simp only [tt, seval]
   refine cS (as_d full as_ (out ++ [] ++ [nT table]) (by (try simp only [ll] at *); omega)) (by decide) ?_ ?_ <;> simp only [tt, seval, hol, op]
   refine ⟨.tu [], _, ⟨rfl, osE (l := out ++ [] ++ [nT table] ++ asL as_) (by simp)⟩, endOk ?_⟩
   simp only [tt, seval]
  ·have ip : (0 : Int) < i := by omega
   have hsrc : srcT g i (Source.mk table as_ on) = [cmT] ++ (nT table :: (asL as_ ++ [])) := by
    show (if 0 < i then (if 0 < on.length then [kT 4] else [cmT]) else []) ++ (nT table :: (asL as_ ++ onL g on)) = _
    rw [hle]
    rw [if_pos (by omega)]; rw [if_neg (by omega)]
   rw [hsrc] at hroom ⊢
   simp only [ll] at hroom
   refine cl_of_d follows_mixed false Tryz.func209 rfl (by kernel_rfl) ?_
   simp only [Tryz.f209, tt, seval]
   simp only [tt, seval, hol, ip, op]
   have hcm : cmL i = [cmT] := if_pos (by omega)
   have hcom := comma_d full i
   rw [hcm] at hcom
   refine cS (hcom out (by (try simp only [ll] at *); omega)) (by decide) ?_ ?_ <;> simp only [tt, seval]
   refine cS (name_d full table (out ++ [cmT]) (by (try simp only [ll] at *); omega)) (by decide) ?_ ?_ <;> simp only [tt, seval]
   refine cS (as_d full as_ (out ++ [cmT] ++ [nT table]) (by (try simp only [ll] at *); omega)) (by decide) ?_ ?_ <;> simp only [tt, seval, hol, op]
   refine ⟨.tu [], _, ⟨rfl, osE (l := out ++ [cmT] ++ [nT table] ++ asL as_) (by simp)⟩, endOk ?_⟩
   simp only [tt, seval]
 ·have hle0 : onL g on = kT 5 :: g e := by rw [hL]; rfl
  have hlen : on.length = r.length + 1 := by rw [hL]; rfl
  have hxe : PrC 36 [.ag (csOf e.row)] full (g e) := hg e (by rw [hL]; simp)
  try rw [← hL]
  obtain ⟨le, hle1⟩ : ∃ le, le = g e := ⟨_, rfl⟩
  have hle : onL g on = kT 5 :: le := by rw [hle0, hle1]
  rw [← hle1] at hxe
  have hpos : ((0 : Int) < on.length) = True := eq_true (by omega)
  have op : (0 : Int) < on.length := by omega
  by_cases hi0 : i = 0
  ·have ip : ¬ (0 : Int) < i := by omega
   have hsrc : srcT g i (Source.mk table as_ on) = [] ++ (nT table :: (asL as_ ++ (kT 5 :: le))) := by
    show (if 0 < i then (if 0 < on.length then [kT 4] else [cmT]) else []) ++ (nT table :: (asL as_ ++ onL g on)) = _
    rw [hle]
    rw [if_neg (by omega)]
   rw [hsrc] at hroom ⊢
   simp only [ll] at hroom
   refine cl_of_d follows_mixed false Tryz.func209 rfl (by kernel_rfl) ?_
   simp only [Tryz.f209, tt, seval]
   simp only [tt, seval, ip]
   have hcm : cmL i = [] := if_neg (by omega)
   have hcom := comma_d full i
   rw [hcm] at hcom
   refine cS (hcom out (by (try simp only [ll] at *); omega)) (by decide) ?_ ?_ <;> simp only [tt, seval]
   refine cS (name_d full table (out ++ []) (by (try simp only [ll] at *); omega)) (by decide) ?_ ?_ <;> simp only [tt, seval]
   refine cS (as_d full as_ (out ++ [] ++ [nT table]) (by (try simp only [ll] at *); omega)) (by decide) ?_ ?_ <;> simp only [tt, seval, hol, op]
   refine cS (kON full (out ++ [] ++ [nT table] ++ asL as_) (by (try simp only [ll] at *); omega)) (by decide) ?_ ?_ <;> simp only [tt, seval, op, idxH hL Expr.row_len, takeD_row (Expr.row_len e), Expr.row_len]
   refine cS (hxe (out ++ [] ++ [nT table] ++ asL as_ ++ [kT 5]) (by (try simp only [ll] at *); omega)) (by decide) ?_ ?_ <;> simp only [tt, seval]
   refine ⟨.tu [], _, ⟨rfl, osE (l := out ++ [] ++ [nT table] ++ asL as_ ++ [kT 5] ++ le) (by simp)⟩, endOk ?_⟩
   simp only [tt, seval]
  ·have ip : (0 : Int) < i := by omega
   have hsrc : srcT g i (Source.mk table as_ on) = [kT 4] ++ (nT table :: (asL as_ ++ (kT 5 :: le))) := by
    show (if 0 < i then (if 0 < on.length then [kT 4] else [cmT]) else []) ++ (nT table :: (asL as_ ++ onL g on)) = _
    rw [hle]
    rw [if_pos (by omega)]; rw [if_pos (by omega)]
   rw [hsrc] at hroom ⊢
   simp only [ll] at hroom
   refine cl_of_d follows_mixed false Tryz.func209 rfl (by kernel_rfl) ?_
   simp only [Tryz.f209, tt, seval]
   simp only [tt, seval, hol, ip, op]
   refine cS (kJOIN full out (by (try simp only [ll] at *); omega)) (by decide) ?_ ?_ <;> simp only [tt, seval]
   refine cS (name_d full table (out ++ [kT 4]) (by (try simp only [ll] at *); omega)) (by decide) ?_ ?_ <;> simp only [tt, seval]
   refine cS (as_d full as_ (out ++ [kT 4] ++ [nT table]) (by (try simp only [ll] at *); omega)) (by decide) ?_ ?_ <;> simp only [tt, seval, hol, op]
   refine cS (kON full (out ++ [kT 4] ++ [nT table] ++ asL as_) (by (try simp only [ll] at *); omega)) (by decide) ?_ ?_ <;> simp only [tt, seval, op, idxH hL Expr.row_len, takeD_row (Expr.row_len e), Expr.row_len]
   refine cS (hxe (out ++ [kT 4] ++ [nT table] ++ asL as_ ++ [kT 5]) (by (try simp only [ll] at *); omega)) (by decide) ?_ ?_ <;> simp only [tt, seval]
   refine ⟨.tu [], _, ⟨rfl, osE (l := out ++ [kT 4] ++ [nT table] ++ asL as_ ++ [kT 5] ++ le) (by simp)⟩, endOk ?_⟩
   simp only [tt, seval]
set_option maxHeartbeats 4000000 in
theorem expr_step (kind op : Int) (not : Bool) (val : Val) (qual name : ByteArray) (kids : List Expr) (sub : List Query) (full : Bool) (gf : Expr → Bool) (g : Expr → List Tok) (hf : fmF gf (Expr.mk kind op not val qual name kids sub) = true) (hnum : -9223372036854775808 ≤ val.num ∧ val.num ≤ 9223372036854775807) (hg : ∀ x ∈ kids, PrE full x (g x)) (hgq : ∀ q ∈ sub, PrQ full q (quT g q)) : PrE full (Expr.mk kind op not val qual name kids sub) (exT full g (Expr.mk kind op not val qual name kids sub)) := by
 intro out hroom
 have hkid : ∀ k (hk : k < kids.length), PrC 82 [.ag (csOf (Expr.mk kind op not val qual name kids sub).row), vi k] full (kidL full g kind op kids k) := fun k hk out hr => by
  rw [kidL_at hk] at hr ⊢
  exact kid_d kind op not val qual name kids sub full k hk _ (hg _ (List.getElem_mem hk)) out hr
 have hsp := (fm_parts hf).1
 clear hf hg
 rw [Expr.row_mk]
 rcases shape_cases hsp with ⟨rfl, hl, hk0, hs0⟩ | ⟨rfl, hn, hm, hk0, hs0⟩ | ⟨rfl, ho, hk0, hs0⟩ | ⟨rfl, ho, hk0, hs0⟩ | ⟨rfl, hk0, hs0⟩ | ⟨rfl, hk0, hs0⟩ | ⟨rfl, hk0, hs0⟩ | ⟨rfl, hk0, hs0⟩ | ⟨rfl, hk0, hs0⟩
 ·skip
  have e : exT full g (Expr.mk 1 op not val qual name kids sub) = [litT val] := rfl
  rw [e] at hroom ⊢
  clear e
  simp only [ll] at hroom
  refine cl_of_d follows_mixed false Tryz.func36 rfl (by kernel_rfl) ?_
  simp only [Tryz.f36, tt, seval]
  refine cS (lit_d full val hl hnum.1 hnum.2 (out) (by (try simp only [ll] at *); omega)) (by decide) ?_ ?_ <;> simp only [tt, seval, Val.row]
  refine ⟨.tu [], _, ⟨rfl, osE (l := out ++ [litT val]) (by simp [])⟩, endOk ?_⟩
  simp only [tt, seval]
 ·skip
  have e : exT full g (Expr.mk 2 op not val qual name kids sub) = qualL qual ++ [nT name] := rfl
  rw [e] at hroom ⊢
  clear e
  simp only [ll] at hroom
  refine cl_of_d follows_mixed false Tryz.func36 rfl (by kernel_rfl) ?_
  simp only [Tryz.f36, tt, seval]
  refine cS (qualified_d full qual (out) (by (try simp only [ll] at *); omega)) (by decide) ?_ ?_ <;> simp only [tt, seval]
  refine cS (name_d full name (out ++ qualL qual) (by (try simp only [ll] at *); omega)) (by decide) ?_ ?_ <;> simp only [tt, seval]
  refine ⟨.tu [], _, ⟨rfl, osE (l := out ++ qualL qual ++ [nT name]) (by simp [List.append_assoc])⟩, endOk ?_⟩
  simp only [tt, seval]
 ·skip
  have e : exT full g (Expr.mk 3 op not val qual name kids sub) = opTk op :: kidL full g 3 op kids 0 := rfl
  rw [e] at hroom ⊢
  clear e
  have hkid0 := hkid 0 (by omega)
  generalize kidL full g 3 op kids 0 = a0 at *
  simp only [ll] at hroom
  refine cl_of_d follows_mixed false Tryz.func36 rfl (by kernel_rfl) ?_
  simp only [Tryz.f36, tt, seval]
  refine cS (operator_d full op (out) (by (try simp only [ll] at *); omega)) (by decide) ?_ ?_ <;> simp only [tt, seval]
  refine cS (hkid0 (out ++ [opTk op]) (by (try simp only [ll] at *); omega)) (by decide) ?_ ?_ <;> simp only [tt, seval, Expr.row_mk]
  refine ⟨.tu [], _, ⟨rfl, osE (l := out ++ [opTk op] ++ a0) (by simp [List.append_assoc])⟩, endOk ?_⟩
  simp only [tt, seval]
 ·skip
  have e : exT full g (Expr.mk 4 op not val qual name kids sub) = kidL full g 4 op kids 0 ++ (opTk op :: kidL full g 4 op kids 1) := rfl
  rw [e] at hroom ⊢
  clear e
  have hkid0 := hkid 0 (by omega)
  generalize kidL full g 4 op kids 0 = a0 at *
  have hkid1 := hkid 1 (by omega)
  generalize kidL full g 4 op kids 1 = a1 at *
  simp only [ll] at hroom
  refine cl_of_d follows_mixed false Tryz.func36 rfl (by kernel_rfl) ?_
  simp only [Tryz.f36, tt, seval]
  refine cS (hkid0 (out) (by (try simp only [ll] at *); omega)) (by decide) ?_ ?_ <;> simp only [tt, seval, Expr.row_mk]
  refine cS (operator_d full op (out ++ a0) (by (try simp only [ll] at *); omega)) (by decide) ?_ ?_ <;> simp only [tt, seval]
  refine cS (hkid1 (out ++ a0 ++ [opTk op]) (by (try simp only [ll] at *); omega)) (by decide) ?_ ?_ <;> simp only [tt, seval, Expr.row_mk]
  refine ⟨.tu [], _, ⟨rfl, osE (l := out ++ a0 ++ [opTk op] ++ a1) (by simp [List.append_assoc])⟩, endOk ?_⟩
  simp only [tt, seval]
 ·skip
  have e : exT full g (Expr.mk 5 op not val qual name kids sub) = kidL full g 5 op kids 0 ++ (kT 16 :: (notL not ++ [kT 20])) := rfl
  rw [e] at hroom ⊢
  clear e
  have hkid0 := hkid 0 (by omega)
  generalize kidL full g 5 op kids 0 = a0 at *
  simp only [ll] at hroom
  refine cl_of_d follows_mixed false Tryz.func36 rfl (by kernel_rfl) ?_
  simp only [Tryz.f36, tt, seval]
  refine cS (hkid0 (out) (by (try simp only [ll] at *); omega)) (by decide) ?_ ?_ <;> simp only [tt, seval, Expr.row_mk]
  refine cS (kIS full (out ++ a0) (by (try simp only [ll] at *); omega)) (by decide) ?_ ?_ <;> simp only [tt, seval]
  refine cS (not_d full not (out ++ a0 ++ [kT 16]) (by (try simp only [ll] at *); omega)) (by decide) ?_ ?_ <;> simp only [tt, seval]
  refine cS (kNULL full (out ++ a0 ++ [kT 16] ++ notL not) (by (try simp only [ll] at *); omega)) (by decide) ?_ ?_ <;> simp only [tt, seval]
  refine ⟨.tu [], _, ⟨rfl, osE (l := out ++ a0 ++ [kT 16] ++ notL not ++ [kT 20]) (by simp [List.append_assoc])⟩, endOk ?_⟩
  simp only [tt, seval]
 ·skip
  have e : exT full g (Expr.mk 6 op not val qual name kids sub) = kidL full g 6 op kids 0 ++ (notL not ++ (kT 18 :: (kidL full g 6 op kids 1 ++ (kT 13 :: kidL full g 6 op kids 2)))) := rfl
  rw [e] at hroom ⊢
  clear e
  have hkid0 := hkid 0 (by omega)
  generalize kidL full g 6 op kids 0 = a0 at *
  have hkid1 := hkid 1 (by omega)
  generalize kidL full g 6 op kids 1 = a1 at *
  have hkid2 := hkid 2 (by omega)
  generalize kidL full g 6 op kids 2 = a2 at *
  simp only [ll] at hroom
  refine cl_of_d follows_mixed false Tryz.func36 rfl (by kernel_rfl) ?_
  simp only [Tryz.f36, tt, seval]
  refine cS (hkid0 (out) (by (try simp only [ll] at *); omega)) (by decide) ?_ ?_ <;> simp only [tt, seval, Expr.row_mk]
  refine cS (not_d full not (out ++ a0) (by (try simp only [ll] at *); omega)) (by decide) ?_ ?_ <;> simp only [tt, seval]
  refine cS (kBETWEEN full (out ++ a0 ++ notL not) (by (try simp only [ll] at *); omega)) (by decide) ?_ ?_ <;> simp only [tt, seval]
  refine cS (hkid1 (out ++ a0 ++ notL not ++ [kT 18]) (by (try simp only [ll] at *); omega)) (by decide) ?_ ?_ <;> simp only [tt, seval, Expr.row_mk]
  refine cS (kAND full (out ++ a0 ++ notL not ++ [kT 18] ++ a1) (by (try simp only [ll] at *); omega)) (by decide) ?_ ?_ <;> simp only [tt, seval]
  refine cS (hkid2 (out ++ a0 ++ notL not ++ [kT 18] ++ a1 ++ [kT 13]) (by (try simp only [ll] at *); omega)) (by decide) ?_ ?_ <;> simp only [tt, seval, Expr.row_mk]
  refine ⟨.tu [], _, ⟨rfl, osE (l := out ++ a0 ++ notL not ++ [kT 18] ++ a1 ++ [kT 13] ++ a2) (by simp [List.append_assoc])⟩, endOk ?_⟩
  simp only [tt, seval]
 ·skip
  have e : exT full g (Expr.mk 7 op not val qual name kids sub) = kidL full g 7 op kids 0 ++ (notL not ++ (kT 17 :: lpT :: ((seqN (inF full g 7 op kids) (kids.length - 1)) ++ [rpT]))) := rfl
  rw [e] at hroom ⊢
  clear e
  simp only [ll] at hroom
  refine cl_of_d follows_mixed false Tryz.func36 rfl (by kernel_rfl) ?_
  simp only [Tryz.f36, tt, seval]
  have hkid0 := hkid 0 (by omega)
  obtain ⟨a0, ha0⟩ : ∃ a0, a0 = kidL full g 7 op kids 0 := ⟨_, rfl⟩
  rw [← ha0] at hkid0 hroom ⊢
  refine cS (hkid0 (out) (by (try simp only [ll] at *); omega)) (by decide) ?_ ?_ <;> simp only [tt, seval, Expr.row_mk]
  refine cS (not_d full not (out ++ a0) (by (try simp only [ll] at *); omega)) (by decide) ?_ ?_ <;> simp only [tt, seval]
  refine cS (kIN full (out ++ a0 ++ notL not) (by (try simp only [ll] at *); omega)) (by decide) ?_ ?_ <;> simp only [tt, seval]
  refine cS (sign_d full ⟨#[40]⟩ (out ++ a0 ++ notL not ++ [kT 17]) (by (try simp only [ll] at *); omega)) (by decide) ?_ ?_ <;> simp only [tt, seval]
  obtain ⟨L0, hL0⟩ : ∃ L0, L0 = out ++ a0 ++ notL not ++ [kT 17] ++ [lpT] := ⟨_, rfl⟩
  have hL0l : L0.length = out.length + a0.length + (notL not).length + 2 := by rw [hL0]; simp only [ll]
  have hgt : out ++ a0 ++ notL not ++ [kT 17] ++ [gT ⟨#[40]⟩] = L0 := by rw [hL0]; rfl
  rw [hgt]
  refine dLoop.gh [.ren 10000105 10000120] ⟨by decide, by decide, ?_⟩
  refine dLoop0.intro (fun f L p => ∃ (j : Nat) (es : List Tok), f 4 = vi (j + 1 : Nat) ∧ j ≤ kids.length - 1 ∧ es = L0 ++ seqN (inF full g 7 op kids) j ∧ L = [(9000, .str [.s 10000120 (es).length, .v (.bool full)]), (10000120, .arr 61 (es).length ((es).flatMap Tok.row) none), (3, .str [.v (.int .i64 7), .v (.int .i64 op), .v (.bool not), .v (.int .i64 val.kind), .v (.int .i64 val.num), .v (.string val.text), .v (.string qual), .v (.string name), .sl kids.length (kids.flatMap Expr.row) none, .sl sub.length (sub.flatMap Query.row) none])] ∧ p = none) (fun f _ _ => (kids.length - ixS (f 4)).toNat) [(9000, .str [.s 10000120 (L0).length, .v (.bool full)]), (10000120, .arr 61 (L0).length ((L0).flatMap Tok.row) none), (3, .str [.v (.int .i64 7), .v (.int .i64 op), .v (.bool not), .v (.int .i64 val.kind), .v (.int .i64 val.num), .v (.string val.text), .v (.string qual), .v (.string name), .sl kids.length (kids.flatMap Expr.row) none, .sl sub.length (sub.flatMap Query.row) none])] none ⟨SubO.cons rfl (SubO.cons rfl (SubO.cons rfl (SubO.nil _))), PoSub.none _, ?_⟩ ?_
  ·simp only [tt, seval]
   exact ⟨0, L0, rfl, by omega, (List.append_nil _).symm, rfl⟩
  ·rintro g' L p ⟨j, es, hi, hjn, hes0, rfl, rfl⟩
   simp only [tt, seval] at hi
   simp only [tt, seval, hi]
   refine fun _ => And.intro (fun hlt => ?_) (fun hge => ?_)
   ·have hlt : j < kids.length - 1 := by omega
    have hst := seqN_succ (inF full g 7 op kids) j
    have hlt2 := seqN_lt (inF full g 7 op kids) hlt
    have hel : es.length = L0.length + (seqN (inF full g 7 op kids) j).length := by rw [hes0, List.length_append]
    have hfj : inF full g 7 op kids j = cmL j ++ kidL full g 7 op kids (j + 1) := rfl
    rw [hfj] at hst hlt2
    simp only [ll] at hlt2
    have hkj := hkid (j + 1) (by omega)
    generalize kidL full g 7 op kids (j + 1) = aj at *
    rw [wrap_id (n := ((j + 1 : Nat) : Int) - 1) (by omega) (by omega), show ((j + 1 : Nat) : Int) - 1 = (j : Int) by omega]
    refine cS (comma_d full j es (by (try simp only [ll] at *); omega)) (by decide) ?_ ?_ <;> simp only [tt, seval, hi]
    refine cS (hkj (es ++ cmL j) (by (try simp only [ll] at *); omega)) (by decide) ?_ ?_ <;> simp only [tt, seval, hi, Expr.row_mk]
    try rw [wrap_id (n := ((j + 1 : Nat) : Int) + 1) (by omega) (by omega)]
    exact ⟨[(9000, .str [.s 10000120 ((es ++ cmL j ++ aj)).length, .v (.bool full)]), (10000120, .arr 61 ((es ++ cmL j ++ aj)).length (((es ++ cmL j ++ aj)).flatMap Tok.row) none), (3, .str [.v (.int .i64 7), .v (.int .i64 op), .v (.bool not), .v (.int .i64 val.kind), .v (.int .i64 val.num), .v (.string val.text), .v (.string qual), .v (.string name), .sl kids.length (kids.flatMap Expr.row) none, .sl sub.length (sub.flatMap Query.row) none])], none, SubO.cons rfl (SubO.cons rfl (SubO.cons rfl (SubO.nil _))), PoSub.none _, ⟨j + 1, es ++ cmL j ++ aj, rfl, by omega, by rw [hst, hes0]; simp [List.append_assoc], rfl, rfl⟩, by simp only [ixS]; omega⟩
   ·have hje : j = kids.length - 1 := by omega
    rw [hje] at hes0
    have hel : es.length = L0.length + (seqN (inF full g 7 op kids) (kids.length - 1)).length := by rw [hes0, List.length_append]
    refine cS (sign_d full ⟨#[41]⟩ es (by (try simp only [ll] at *); omega)) (by decide) ?_ ?_ <;> simp only [tt, seval]
    refine ⟨.tu [], _, ⟨rfl, osE (l := es ++ [gT ⟨#[41]⟩]) (by rw [hes0, hL0]; simp [rpT, List.append_assoc])⟩, endOk ?_⟩
    simp only [tt, seval]
 ·skip
  obtain ⟨q, hsub⟩ := list1 hs0
  have hsl : subL' g sub = quT g q := by rw [hsub]; rfl
  have hq := hgq q (by rw [hsub]; simp)
  have hpos : ((0 : Int) < sub.length) = True := eq_true (by omega)
  have e : exT full g (Expr.mk 8 op not val qual name kids sub) = kidL full g 8 op kids 0 ++ (notL not ++ (kT 17 :: lpT :: (subL' g sub ++ [rpT]))) := rfl
  rw [e] at hroom ⊢
  clear e
  have hkid0 := hkid 0 (by omega)
  generalize kidL full g 8 op kids 0 = a0 at *
  simp only [ll] at hroom
  refine cl_of_d follows_mixed false Tryz.func36 rfl (by kernel_rfl) ?_
  simp only [Tryz.f36, tt, seval]
  rw [hsl] at hroom ⊢
  refine cS (hkid0 (out) (by (try simp only [ll] at *); omega)) (by decide) ?_ ?_ <;> simp only [tt, seval, Expr.row_mk]
  refine cS (not_d full not (out ++ a0) (by (try simp only [ll] at *); omega)) (by decide) ?_ ?_ <;> simp only [tt, seval]
  refine cS (kIN full (out ++ a0 ++ notL not) (by (try simp only [ll] at *); omega)) (by decide) ?_ ?_ <;> simp only [tt, seval, idx0 hsub, hpos, takeD_all (Query.row_len q), Query.row_len]
  refine cS (sub_d full q (quT g q) hq (out ++ a0 ++ notL not ++ [kT 17]) (by (try simp only [ll] at *); omega)) (by decide) ?_ ?_ <;> simp only [tt, seval]
  refine ⟨.tu [], _, ⟨rfl, osE (l := out ++ a0 ++ notL not ++ [kT 17] ++ (lpT :: (quT g q ++ [rpT]))) (by simp [List.append_assoc])⟩, endOk ?_⟩
  simp only [tt, seval]
 ·skip
  obtain ⟨q, hsub⟩ := list1 hs0
  have hsl : subL' g sub = quT g q := by rw [hsub]; rfl
  have hq := hgq q (by rw [hsub]; simp)
  have hpos : ((0 : Int) < sub.length) = True := eq_true (by omega)
  have e : exT full g (Expr.mk 9 op not val qual name kids sub) = kT 19 :: lpT :: (subL' g sub ++ [rpT]) := rfl
  rw [e] at hroom ⊢
  clear e
  simp only [ll] at hroom
  refine cl_of_d follows_mixed false Tryz.func36 rfl (by kernel_rfl) ?_
  simp only [Tryz.f36, tt, seval]
  rw [hsl] at hroom ⊢
  refine cS (kEXISTS full (out) (by (try simp only [ll] at *); omega)) (by decide) ?_ ?_ <;> simp only [tt, seval, idx0 hsub, hpos, takeD_all (Query.row_len q), Query.row_len]
  refine cS (sub_d full q (quT g q) hq (out ++ [kT 19]) (by (try simp only [ll] at *); omega)) (by decide) ?_ ?_ <;> simp only [tt, seval]
  refine ⟨.tu [], _, ⟨rfl, osE (l := out ++ [kT 19] ++ (lpT :: (quT g q ++ [rpT]))) (by simp [List.append_assoc])⟩, endOk ?_⟩
  simp only [tt, seval]
set_option maxHeartbeats 8000000 in
theorem query_step (full : Bool) (gf : Expr → Bool) (g : Expr → List Tok) (q : Query) (hf : fmQ gf q = true) (hlim : q.lim ≤ 9223372036854775807) (hsz : szQuery q ≤ 1048576) (hg : ∀ x ∈ exprsQ q, PrE full x (g x)) : PrQ full q (quT g q) := by
 intro out hroom
 obtain ⟨distinct, items, from_, where_, order, limit⟩ := q
 obtain ⟨_, _, _, _, hl1, _, _, _⟩ := fq_parts hf
 have hlim : limit ≤ 9223372036854775807 := hlim
 rw [szQuery_mk, szItems_eq, szSources_eq, szExprs_eq, szSortKeys_eq] at hsz
 have eq : exprsQ (.mk distinct items from_ where_ order limit) = exprsI items ++ from_.flatMap Source.on ++ where_ ++ order.map SortKey.e := rfl
 rw [eq] at hg
 have hgI : ∀ x ∈ items, x.star = false → PrE full x.e (g x.e) := fun x hx hs => hg _ (by
  simp only [List.mem_append, exprsI, List.mem_map, List.mem_filter]
  exact .inl (.inl (.inl ⟨_, ⟨hx, by rw [hs]; rfl⟩, rfl⟩)))
 have hgS : ∀ s ∈ from_, ∀ x ∈ s.on, PrE full x (g x) := fun s hs x hx => hg _ (by
  simp only [List.mem_append, List.mem_flatMap]
  exact .inl (.inl (.inr ⟨_, hs, hx⟩)))
 have hgW : ∀ x ∈ where_, PrE full x (g x) := fun x hx => hg _ (by simp [hx])
 have hgO : ∀ k ∈ order, PrE full k.e (g k.e) := fun k hk => hg _ (by
  simp only [List.mem_append, List.mem_map]
  exact .inr ⟨_, hk, rfl⟩)
 clear hf hg eq
 rw [Query.row_mk]
 obtain ⟨dl, hdl⟩ : ∃ dl, dl = (if distinct = true then [kT 2] else []) := ⟨_, rfl⟩
 have e : quT g (.mk distinct items from_ where_ order limit) = kT 1 :: (dl ++ (seqN (itemF g items) items.length ++ (kT 3 :: (seqN (srcF g from_) from_.length ++ (whL g where_ ++ (seqN (keyF g order) order.length ++ limL limit)))))) := by rw [hdl]; rfl
 rw [e] at hroom ⊢
 clear e
 simp only [ll] at hroom
 refine cl_of_d follows_mixed false Tryz.func146 rfl (by kernel_rfl) ?_
 simp only [Tryz.f146, tt, seval]
 refine cS (kSELECT full out (by (try simp only [ll] at *); omega)) (by decide) ?_ ?_ <;> simp only [tt, seval]
 refine And.intro (fun hd => ?_) (fun hd => ?_)
 all_goals first
  | (have hd1 : dl = [kT 2] := by rw [hdl, if_pos hd]
     have hd2 : dl.length = 1 := by rw [hd1]; rfl
     refine CallQ.intro (kDISTINCT full (out ++ [kT 1]) (by (try simp only [ll] at *); omega)) ?_ ?_ ?_
     ·decide
     ·simp only [tt, seval]
     rintro r os ⟨rfl, rfl⟩ hos
     simp only [tt, seval]
     refine fun _ => ?_
     rw [← hd1]
     refine dLoop.gh [.ren 10000015 10000042] ⟨by decide, by decide, ?_⟩)
  | (have hd1 : dl = [] := by rw [hdl, hd]; rfl
     refine fun _ => ?_
     rw [show out ++ [kT 1] = out ++ [kT 1] ++ dl by rw [hd1, List.append_nil]]
     refine dLoop.gh [.ren 10000011 10000042] ⟨by decide, by decide, ?_⟩)
 all_goals
  obtain ⟨L1, hL1⟩ : ∃ L1, L1 = out ++ [kT 1] ++ dl := ⟨_, rfl⟩
  rw [← hL1]
  have hel1 : L1.length = out.length + 1 + dl.length := by rw [hL1]; simp only [ll]
  refine dLoop0.introR (fun f L p => ∃ (i : Nat) (es : List Tok), f 19 = vi i ∧ i ≤ items.length ∧ es = L1 ++ seqN (itemF g items) i ∧ L = [(9000, .str [.s 10000042 (es).length, .v (.bool full)]), (10000042, .arr 61 (es).length ((es).flatMap Tok.row) none), (3, .str [.v (.bool distinct), .sl items.length (items.flatMap Item.row) none, .sl from_.length (from_.flatMap Source.row) none, .sl where_.length (where_.flatMap Expr.row) none, .sl order.length (order.flatMap SortKey.row) none, .v (.int .i64 limit)])] ∧ p = none) (fun f _ _ => (items.length - ixS (f 19)).toNat) [(9000, .str [.s 10000042 (L1).length, .v (.bool full)]), (10000042, .arr 61 (L1).length ((L1).flatMap Tok.row) none), (3, .str [.v (.bool distinct), .sl items.length (items.flatMap Item.row) none, .sl from_.length (from_.flatMap Source.row) none, .sl where_.length (where_.flatMap Expr.row) none, .sl order.length (order.flatMap SortKey.row) none, .v (.int .i64 limit)])] none ⟨SubO.cons rfl (SubO.cons rfl (SubO.cons rfl (SubO.nil _))), PoSub.none _, ?_⟩ ?_
  ·simp only [tt, seval]
   exact ⟨0, L1, rfl, by omega, (List.append_nil _).symm, rfl⟩
  rintro g' L p ⟨i, e1, hi19, hi, he1, rfl, rfl⟩
  simp only [tt, seval] at hi19
  simp only [tt, seval, hi19, Int.ofNat_lt]
  refine And.intro (fun hlt => ?_) (fun hge => ?_)
  ·have hlt : i < items.length := by omega
   have hst := seqN_succ (itemF g items) i
   have hlt2 := seqN_lt (itemF g items) hlt
   have hel : e1.length = L1.length + (seqN (itemF g items) i).length := by rw [he1, List.length_append]
   obtain ⟨it, hit⟩ : ∃ it, it = items[i] := ⟨_, rfl⟩
   have hx : items[i]? = some it := by rw [hit]; exact List.getElem?_eq_getElem hlt
   have hmem : it ∈ items := by rw [hit]; exact List.getElem_mem hlt
   have i0 : ((0 : Int) ≤ (i : Int)) = True := eq_true (by omega)
   have iL : ((i : Int) < (items.length : Int)) = True := eq_true (by omega)
   have iT : (i < items.length) = True := eq_true hlt
   have hgi := hgI it hmem
   have hit2 : itemF g items i = cmL i ++ itemT g it := by rw [itemF, atL_get hlt, hit]
   obtain ⟨star, qual, ⟨k0, o0, n0, v0, q0, m0, ks0, ss0⟩, as_⟩ := it
   rw [hit2] at hlt2
   simp only [ll] at hlt2
   simp only [tt, seval, idxAt hx Item.row_len, i0, iT, Item.row_mk, Expr.row_mk]
   have hcm := Nat.zero_le (itemT g (Item.mk star qual (Expr.mk k0 o0 n0 v0 q0 m0 ks0 ss0) as_)).length
   refine cS (comma_d full i e1 (by (try simp only [ll] at *); omega)) (by decide) ?_ ?_ <;> simp only [tt, seval]
   cases star
   case true =>
    have hi3 : itemT g (.mk true qual (Expr.mk k0 o0 n0 v0 q0 m0 ks0 ss0) as_) = qualL qual ++ [stT] := rfl
    rw [hi3] at hlt2 hit2
    simp only [ll] at hlt2
    simp only [tt, seval]
    refine cS (qualified_d full qual (e1 ++ cmL i) (by (try simp only [ll] at *); omega)) (by decide) ?_ ?_ <;> simp only [tt, seval]
    refine cS (sign_d full ⟨#[42]⟩ (e1 ++ cmL i ++ qualL qual) (by (try simp only [ll] at *); omega)) (by decide) ?_ ?_ <;> simp only [tt, seval, hi19]
    try rw [wrS i (by omega)]
    refine ⟨[.ren 10000034 10000042], by decide, by decide, ?_⟩
    simp only [tt, seval, ghs]
    exact ⟨[(9000, .str [.s 10000042 (e1 ++ cmL i ++ qualL qual ++ [gT ⟨#[42]⟩]).length, .v (.bool full)]), (10000042, .arr 61 (e1 ++ cmL i ++ qualL qual ++ [gT ⟨#[42]⟩]).length ((e1 ++ cmL i ++ qualL qual ++ [gT ⟨#[42]⟩]).flatMap Tok.row) none), (3, .str [.v (.bool distinct), .sl items.length (items.flatMap Item.row) none, .sl from_.length (from_.flatMap Source.row) none, .sl where_.length (where_.flatMap Expr.row) none, .sl order.length (order.flatMap SortKey.row) none, .v (.int .i64 limit)])], none, SubO.cons rfl (SubO.cons rfl (SubO.cons rfl (SubO.nil _))), PoSub.none _, ⟨i + 1, e1 ++ cmL i ++ qualL qual ++ [gT ⟨#[42]⟩], rfl, by omega, by rw [hst, he1, hit2]; simp [stT, List.append_assoc], rfl, rfl⟩, by simp only [ixS]; omega⟩
   case false =>
    have hx0 : PrC 36 [.ag (csOf (Expr.mk k0 o0 n0 v0 q0 m0 ks0 ss0).row)] full (g (Expr.mk k0 o0 n0 v0 q0 m0 ks0 ss0)) := hgi rfl
    have hi3 : itemT g (.mk false qual (Expr.mk k0 o0 n0 v0 q0 m0 ks0 ss0) as_) = g (Expr.mk k0 o0 n0 v0 q0 m0 ks0 ss0) ++ asL as_ := rfl
    rw [hi3] at hlt2 hit2
    generalize g (Expr.mk k0 o0 n0 v0 q0 m0 ks0 ss0) = le at *
    simp only [ll] at hlt2
    simp only [tt, seval]
    refine cS (hx0 (e1 ++ cmL i) (by (try simp only [ll] at *); omega)) (by decide) ?_ ?_ <;> simp only [tt, seval, Expr.row_mk]
    refine cS (as_d full as_ (e1 ++ cmL i ++ le) (by (try simp only [ll] at *); omega)) (by decide) ?_ ?_ <;> simp only [tt, seval, hi19]
    try rw [wrS i (by omega)]
    refine ⟨[], ?_⟩
    simp only [tt, seval, ghs]
    exact ⟨[(9000, .str [.s 10000042 (e1 ++ cmL i ++ le ++ asL as_).length, .v (.bool full)]), (10000042, .arr 61 (e1 ++ cmL i ++ le ++ asL as_).length ((e1 ++ cmL i ++ le ++ asL as_).flatMap Tok.row) none), (3, .str [.v (.bool distinct), .sl items.length (items.flatMap Item.row) none, .sl from_.length (from_.flatMap Source.row) none, .sl where_.length (where_.flatMap Expr.row) none, .sl order.length (order.flatMap SortKey.row) none, .v (.int .i64 limit)])], none, SubO.cons rfl (SubO.cons rfl (SubO.cons rfl (SubO.nil _))), PoSub.none _, ⟨i + 1, e1 ++ cmL i ++ le ++ asL as_, rfl, by omega, by rw [hst, he1, hit2]; simp [List.append_assoc], rfl, rfl⟩, by simp only [ixS]; omega⟩
  have hie : i = items.length := by omega
  subst hie
  have hel19 : e1.length = L1.length + (seqN (itemF g items) items.length).length := by rw [he1, List.length_append]
  clear hi hge
  refine cS (kFROM full e1 (by (try simp only [ll] at *); omega)) (by decide) ?_ ?_ <;> simp only [tt, seval]
  refine fun _ => ?_
  obtain ⟨L2, hL2⟩ : ∃ L2, L2 = e1 ++ [kT 3] := ⟨_, rfl⟩
  have hl2 : L2.length = e1.length + 1 := by rw [hL2]; simp only [ll]
  rw [← hL2]
  refine dLoop.gh [.ren 10000045 10000057] ⟨by decide, by decide, ?_⟩
  refine dLoop0.introR (fun f L p => ∃ (i : Nat) (es : List Tok), f 49 = vi i ∧ i ≤ from_.length ∧ es = L2 ++ seqN (srcF g from_) i ∧ L = [(9000, .str [.s 10000057 (es).length, .v (.bool full)]), (10000057, .arr 61 (es).length ((es).flatMap Tok.row) none), (3, .str [.v (.bool distinct), .sl items.length (items.flatMap Item.row) none, .sl from_.length (from_.flatMap Source.row) none, .sl where_.length (where_.flatMap Expr.row) none, .sl order.length (order.flatMap SortKey.row) none, .v (.int .i64 limit)])] ∧ p = none) (fun f _ _ => (from_.length - ixS (f 49)).toNat) [(9000, .str [.s 10000057 (L2).length, .v (.bool full)]), (10000057, .arr 61 (L2).length ((L2).flatMap Tok.row) none), (3, .str [.v (.bool distinct), .sl items.length (items.flatMap Item.row) none, .sl from_.length (from_.flatMap Source.row) none, .sl where_.length (where_.flatMap Expr.row) none, .sl order.length (order.flatMap SortKey.row) none, .v (.int .i64 limit)])] none ⟨SubO.cons rfl (SubO.cons rfl (SubO.cons rfl (SubO.nil _))), PoSub.none _, ?_⟩ ?_
  ·simp only [tt, seval]
   exact ⟨0, L2, rfl, by omega, (List.append_nil _).symm, rfl⟩
  rintro g' L p ⟨i, e2, hi49, hi, he2, rfl, rfl⟩
  simp only [tt, seval] at hi49
  simp only [tt, seval, hi49, Int.ofNat_lt]
  refine And.intro (fun hlt => ?_) (fun hge => ?_)
  ·have hlt : i < from_.length := by omega
   have hst := seqN_succ (srcF g from_) i
   have hlt2 := seqN_lt (srcF g from_) hlt
   have hel : e2.length = L2.length + (seqN (srcF g from_) i).length := by rw [he2, List.length_append]
   obtain ⟨it, hit⟩ : ∃ it, it = from_[i] := ⟨_, rfl⟩
   have hx : from_[i]? = some it := by rw [hit]; exact List.getElem?_eq_getElem hlt
   have hmem : it ∈ from_ := by rw [hit]; exact List.getElem_mem hlt
   have i0 : ((0 : Int) ≤ (i : Int)) = True := eq_true (by omega)
   have iL : ((i : Int) < (from_.length : Int)) = True := eq_true (by omega)
   have iT : (i < from_.length) = True := eq_true hlt
   have hgi := hgS it hmem
   have hso := mem_sz szSource hmem
   have hit2 : srcF g from_ i = srcT g i it := by rw [srcF, atL_get hlt, hit]
   rw [hit2] at hlt2
   obtain ⟨table, as_, on⟩ := it
   rw [szSource_mk, szExprs_eq] at hso
   simp only [tt, seval, idxAt hx Source.row_len, i0, iT, Source.row_mk]
   refine cS (source_d full i (Source.mk table as_ on) g (by show on.length ≤ _; omega) hgi e2 (by (try simp only [ll] at *); omega)) (by decide) ?_ ?_ <;> simp only [tt, seval, hi49, Source.row_mk]
   try rw [wrS i (by omega)]
   refine ⟨[], ?_⟩
   simp only [tt, seval, ghs]
   exact ⟨[(9000, .str [.s 10000057 (e2 ++ srcT g i (Source.mk table as_ on)).length, .v (.bool full)]), (10000057, .arr 61 (e2 ++ srcT g i (Source.mk table as_ on)).length ((e2 ++ srcT g i (Source.mk table as_ on)).flatMap Tok.row) none), (3, .str [.v (.bool distinct), .sl items.length (items.flatMap Item.row) none, .sl from_.length (from_.flatMap Source.row) none, .sl where_.length (where_.flatMap Expr.row) none, .sl order.length (order.flatMap SortKey.row) none, .v (.int .i64 limit)])], none, SubO.cons rfl (SubO.cons rfl (SubO.cons rfl (SubO.nil _))), PoSub.none _, ⟨i + 1, e2 ++ srcT g i (Source.mk table as_ on), rfl, by omega, by rw [hst, he2, hit2]; simp [List.append_assoc], rfl, rfl⟩, by simp only [ixS]; omega⟩
  have hie : i = from_.length := by omega
  subst hie
  have hel49 : e2.length = L2.length + (seqN (srcF g from_) from_.length).length := by rw [he2, List.length_append]
  clear hi hge
  refine cS (where_d full where_ g (by omega) hgW e2 (by (try simp only [ll] at *); omega)) (by decide) ?_ ?_ <;> simp only [tt, seval]
  refine fun _ => ?_
  obtain ⟨L3, hL3⟩ : ∃ L3, L3 = e2 ++ whL g where_ := ⟨_, rfl⟩
  have hl3 : L3.length = e2.length + (whL g where_).length := by rw [hL3]; simp only [ll]
  rw [← hL3]
  refine dLoop.gh [.ren 10000062 10000085] ⟨by decide, by decide, ?_⟩
  refine dLoop0.introR (fun f L p => ∃ (i : Nat) (es : List Tok), f 66 = vi i ∧ i ≤ order.length ∧ es = L3 ++ seqN (keyF g order) i ∧ L = [(9000, .str [.s 10000085 (es).length, .v (.bool full)]), (10000085, .arr 61 (es).length ((es).flatMap Tok.row) none), (3, .str [.v (.bool distinct), .sl items.length (items.flatMap Item.row) none, .sl from_.length (from_.flatMap Source.row) none, .sl where_.length (where_.flatMap Expr.row) none, .sl order.length (order.flatMap SortKey.row) none, .v (.int .i64 limit)])] ∧ p = none) (fun f _ _ => (order.length - ixS (f 66)).toNat) [(9000, .str [.s 10000085 (L3).length, .v (.bool full)]), (10000085, .arr 61 (L3).length ((L3).flatMap Tok.row) none), (3, .str [.v (.bool distinct), .sl items.length (items.flatMap Item.row) none, .sl from_.length (from_.flatMap Source.row) none, .sl where_.length (where_.flatMap Expr.row) none, .sl order.length (order.flatMap SortKey.row) none, .v (.int .i64 limit)])] none ⟨SubO.cons rfl (SubO.cons rfl (SubO.cons rfl (SubO.nil _))), PoSub.none _, ?_⟩ ?_
  ·simp only [tt, seval]
   exact ⟨0, L3, rfl, by omega, (List.append_nil _).symm, rfl⟩
  rintro g' L p ⟨i, e3, hi66, hi, he3, rfl, rfl⟩
  simp only [tt, seval] at hi66
  simp only [tt, seval, hi66, Int.ofNat_lt]
  refine And.intro (fun hlt => ?_) (fun hge => ?_)
  ·have hlt : i < order.length := by omega
   have hst := seqN_succ (keyF g order) i
   have hlt2 := seqN_lt (keyF g order) hlt
   have hel : e3.length = L3.length + (seqN (keyF g order) i).length := by rw [he3, List.length_append]
   obtain ⟨it, hit⟩ : ∃ it, it = order[i] := ⟨_, rfl⟩
   have hx : order[i]? = some it := by rw [hit]; exact List.getElem?_eq_getElem hlt
   have hmem : it ∈ order := by rw [hit]; exact List.getElem_mem hlt
   have i0 : ((0 : Int) ≤ (i : Int)) = True := eq_true (by omega)
   have iL : ((i : Int) < (order.length : Int)) = True := eq_true (by omega)
   have iT : (i < order.length) = True := eq_true hlt
   have hgi := hgO it hmem
   have hit2 : keyF g order i = (if i = 0 then [kT 7, kT 8] else [cmT]) ++ keyT g it := by rw [keyF, atL_get hlt, hit]
   obtain ⟨⟨k0, o0, n0, v0, q0, m0, ks0, ss0⟩, desc⟩ := it
   have hx0 : PrC 36 [.ag (csOf (Expr.mk k0 o0 n0 v0 q0 m0 ks0 ss0).row)] full (g (Expr.mk k0 o0 n0 v0 q0 m0 ks0 ss0)) := hgi
   have hkt : keyT g (SortKey.mk (Expr.mk k0 o0 n0 v0 q0 m0 ks0 ss0) desc) = g (Expr.mk k0 o0 n0 v0 q0 m0 ks0 ss0) ++ (if desc = true then [kT 10] else []) := rfl
   rw [hkt] at hit2
   generalize g (Expr.mk k0 o0 n0 v0 q0 m0 ks0 ss0) = le at *
   rw [hit2] at hlt2
   have hop : 0 ≤ (if desc = true then [kT 10] else []).length := Nat.zero_le _
   simp only [tt, seval, idxAt hx SortKey.row_len, i0, iT, SortKey.row_mk, Expr.row_mk]
   refine And.intro (fun hc => ?_) (fun hc => ?_)
   ·have hc : i = 0 := by omega
    rw [if_pos hc] at hlt2 hit2
    simp only [ll] at hlt2
    have hcm : cmL i = [] := if_neg (by omega)
    have hcom := comma_d full i
    rw [hcm] at hcom
    refine cS (kORDERBY full e3 (by (try simp only [ll] at *); omega)) (by decide) ?_ ?_ <;> simp only [tt, seval]
    refine cS (hcom (e3 ++ [kT 7, kT 8]) (by (try simp only [ll] at *); omega)) (by decide) ?_ ?_ <;> simp only [tt, seval]
    refine cS (hx0 (e3 ++ [kT 7, kT 8] ++ []) (by (try simp only [ll] at *); omega)) (by decide) ?_ ?_ <;> simp only [tt, seval, hi66, Expr.row_mk]
    cases desc
    case true =>
     rw [if_pos rfl] at hlt2 hit2
     simp only [ll] at hlt2
     simp only [tt, seval]
     refine cS (kDESC full (e3 ++ [kT 7, kT 8] ++ le) (by (try simp only [ll] at *); omega)) (by decide) ?_ ?_ <;> simp only [tt, seval, hi66]
     try rw [wrS i (by omega)]
     refine ⟨[], ?_⟩
     simp only [tt, seval, ghs]
     exact ⟨[(9000, .str [.s 10000085 (e3 ++ [kT 7, kT 8] ++ le ++ [kT 10]).length, .v (.bool full)]), (10000085, .arr 61 (e3 ++ [kT 7, kT 8] ++ le ++ [kT 10]).length ((e3 ++ [kT 7, kT 8] ++ le ++ [kT 10]).flatMap Tok.row) none), (3, .str [.v (.bool distinct), .sl items.length (items.flatMap Item.row) none, .sl from_.length (from_.flatMap Source.row) none, .sl where_.length (where_.flatMap Expr.row) none, .sl order.length (order.flatMap SortKey.row) none, .v (.int .i64 limit)])], none, SubO.cons rfl (SubO.cons rfl (SubO.cons rfl (SubO.nil _))), PoSub.none _, ⟨i + 1, e3 ++ [kT 7, kT 8] ++ le ++ [kT 10], rfl, by omega, by rw [hst, he3, hit2]; simp [List.append_assoc], rfl, rfl⟩, by simp only [ixS]; omega⟩
    case false =>
     rw [if_neg Bool.false_ne_true] at hlt2 hit2
     simp only [tt, seval]
     try rw [wrS i (by omega)]
     refine ⟨[.ren 10000081 10000085], by decide, by decide, ?_⟩
     simp only [tt, seval, ghs]
     exact ⟨[(9000, .str [.s 10000085 (e3 ++ [kT 7, kT 8] ++ le).length, .v (.bool full)]), (10000085, .arr 61 (e3 ++ [kT 7, kT 8] ++ le).length ((e3 ++ [kT 7, kT 8] ++ le).flatMap Tok.row) none), (3, .str [.v (.bool distinct), .sl items.length (items.flatMap Item.row) none, .sl from_.length (from_.flatMap Source.row) none, .sl where_.length (where_.flatMap Expr.row) none, .sl order.length (order.flatMap SortKey.row) none, .v (.int .i64 limit)])], none, SubO.cons rfl (SubO.cons rfl (SubO.cons rfl (SubO.nil _))), PoSub.none _, ⟨i + 1, e3 ++ [kT 7, kT 8] ++ le, rfl, by omega, by rw [hst, he3, hit2]; simp [List.append_assoc], rfl, rfl⟩, by simp only [ixS]; omega⟩
   ·have hc : ¬ i = 0 := by omega
    rw [if_neg hc] at hlt2 hit2
    simp only [ll] at hlt2
    have hcm : cmL i = [cmT] := if_pos (by omega)
    have hcom := comma_d full i
    rw [hcm] at hcom
    refine cS (hcom (e3) (by (try simp only [ll] at *); omega)) (by decide) ?_ ?_ <;> simp only [tt, seval]
    refine cS (hx0 (e3 ++ [cmT]) (by (try simp only [ll] at *); omega)) (by decide) ?_ ?_ <;> simp only [tt, seval, hi66, Expr.row_mk]
    cases desc
    case true =>
     rw [if_pos rfl] at hlt2 hit2
     simp only [ll] at hlt2
     simp only [tt, seval]
     refine cS (kDESC full (e3 ++ [cmT] ++ le) (by (try simp only [ll] at *); omega)) (by decide) ?_ ?_ <;> simp only [tt, seval, hi66]
     try rw [wrS i (by omega)]
     refine ⟨[], ?_⟩
     simp only [tt, seval, ghs]
     exact ⟨[(9000, .str [.s 10000085 (e3 ++ [cmT] ++ le ++ [kT 10]).length, .v (.bool full)]), (10000085, .arr 61 (e3 ++ [cmT] ++ le ++ [kT 10]).length ((e3 ++ [cmT] ++ le ++ [kT 10]).flatMap Tok.row) none), (3, .str [.v (.bool distinct), .sl items.length (items.flatMap Item.row) none, .sl from_.length (from_.flatMap Source.row) none, .sl where_.length (where_.flatMap Expr.row) none, .sl order.length (order.flatMap SortKey.row) none, .v (.int .i64 limit)])], none, SubO.cons rfl (SubO.cons rfl (SubO.cons rfl (SubO.nil _))), PoSub.none _, ⟨i + 1, e3 ++ [cmT] ++ le ++ [kT 10], rfl, by omega, by rw [hst, he3, hit2]; simp [List.append_assoc], rfl, rfl⟩, by simp only [ixS]; omega⟩
    case false =>
     rw [if_neg Bool.false_ne_true] at hlt2 hit2
     simp only [tt, seval]
     try rw [wrS i (by omega)]
     refine ⟨[.ren 10000081 10000085], by decide, by decide, ?_⟩
     simp only [tt, seval, ghs]
     exact ⟨[(9000, .str [.s 10000085 (e3 ++ [cmT] ++ le).length, .v (.bool full)]), (10000085, .arr 61 (e3 ++ [cmT] ++ le).length ((e3 ++ [cmT] ++ le).flatMap Tok.row) none), (3, .str [.v (.bool distinct), .sl items.length (items.flatMap Item.row) none, .sl from_.length (from_.flatMap Source.row) none, .sl where_.length (where_.flatMap Expr.row) none, .sl order.length (order.flatMap SortKey.row) none, .v (.int .i64 limit)])], none, SubO.cons rfl (SubO.cons rfl (SubO.cons rfl (SubO.nil _))), PoSub.none _, ⟨i + 1, e3 ++ [cmT] ++ le, rfl, by omega, by rw [hst, he3, hit2]; simp [List.append_assoc], rfl, rfl⟩, by simp only [ixS]; omega⟩
  have hie : i = order.length := by omega
  subst hie
  have hel66 : e3.length = L3.length + (seqN (keyF g order) order.length).length := by rw [he3, List.length_append]
  clear hi hge
  refine And.intro (fun hlm => ?_) (fun hlm => ?_)
  ·rw [limL, if_pos hlm] at hroom ⊢
   simp only [ll] at hroom
   refine cS (kLIMIT full e3 (by (try simp only [ll] at *); omega)) (by decide) ?_ ?_ <;> simp only [tt, seval]
   refine cZ (iDigits_d limit (by omega) hlim) (by decide) ?_ ?_ <;> simp only [tt, seval]
   refine cS (put_d full 3 (itoaB limit) (e3 ++ [kT 11]) (by (try simp only [ll] at *); omega)) (by decide) ?_ ?_ <;> simp only [tt, seval]
   refine ⟨.tu [], _, ⟨rfl, osE (l := e3 ++ [kT 11] ++ [Tok.mk 3 (itoaB limit) 0]) (by rw [he3, hL3, he2, hL2, he1, hL1]; simp [iT, List.append_assoc])⟩, endOk ?_⟩
   simp only [tt, seval]
  ·rw [limL, if_neg hlm] at hroom ⊢
   simp only [ll] at hroom
   simp only [tt, seval]
   refine ⟨.tu [], _, ⟨rfl, osE (l := e3) (by rw [he3, hL3, he2, hL2, he1, hL1]; simp [List.append_assoc])⟩, endOk ?_⟩
   simp only [tt, seval]
theorem expr_d (full : Bool) (e : Expr) : fmE e = true → Rg e → szExpr e ≤ 1048576 → PrE full e (tkE full e) := by
 refine foldE3_ind (F1 := fmF) (F2 := ndF) (F3 := exT full) (P := fun e f n t => f = true → Rg e → szExpr e ≤ 1048576 → PrE full e t) (fun e gf gn g hg hf hr hsz => ?_) e
 have hb : ∀ x, below x e → gf x = true → PrE full x (g x) := fun x hx hx' => hg x hx hx' (rg_down hr hx) (Nat.le_trans (below_sz hx) hsz)
 have hs : ∀ q ∈ e.sub, q.lim ≤ 9223372036854775807 ∧ szQuery q ≤ 1048576 := fun q hq => ⟨(rg_sub hr hq).1, Nat.le_trans (sub_sz hq) hsz⟩
 obtain ⟨kind, op, not, val, qual, name, kids, sub⟩ := e
 obtain ⟨h1, h2, h3⟩ := fm_parts hf
 refine expr_step kind op not val qual name kids sub full gf g hf hr.num (fun x hx => hb x (.inl hx) (h2 x hx)) fun q hq => ?_
 refine query_step full gf g q (h3 q hq) (hs q hq).1 (hs q hq).2 fun x hx => hb x (.inr ⟨q, hq, hx⟩) ?_
 have h4 := h3 q hq
 obtain ⟨d, it, fr, wh, od, li⟩ := q
 exact (fq_parts h4).2.2.2.2.2.2.2 x hx
theorem iExprTokens_d (e : Expr) (hr : Rg e) (hsz : szExpr e ≤ 1048576) : Cl Tryz.prog 10 [.ag (csOf e.row)] [] fun r _ => r = .c (.sl (exToks e).length ((exToks e).flatMap Tok.row) none) := by
 have c1 := iExprOk_d e hsz
 have ht := toks_small false e hr
 have he := expr_d false e
 unfold exToks
 generalize tkE false e = l at *
 cases hb : okE e
 case false =>
  rw [hb] at c1
  obtain ⟨kind, op, not, val, qual, name, kids, sub⟩ := e
  rw [Expr.row_mk] at c1 ⊢
  refine cl_of_d follows_mixed false Tryz.func10 rfl (by kernel_rfl) ?_
  simp only [Tryz.f10, tt, seval]
  refine cZ (c1) (by decide) ?_ ?_ <;> simp only [tt, seval]
  refine ⟨_, [], rfl, endOk ?_⟩
  simp only [tt, seval]
 case true =>
  rw [hb] at c1
  obtain ⟨hf, h1, h2, h3⟩ := ht hb
  have he : PrC 36 [.ag (csOf e.row)] false (l) := he hf hr hsz
  obtain ⟨kind, op, not, val, qual, name, kids, sub⟩ := e
  rw [Expr.row_mk] at c1 he ⊢
  refine cl_of_d follows_mixed false Tryz.func10 rfl (by kernel_rfl) ?_
  simp only [Tryz.f10, tt, seval]
  refine cZ (c1) (by decide) ?_ ?_ <;> simp only [tt, seval]
  refine cS (he [] (by simp only [List.length_nil]; omega)) (by decide) ?_ ?_ <;> simp only [tt, seval]
  refine ⟨_, [], rfl, endOk ?_⟩
  simp only [tt, seval]
end Go.Proofs.YtoegnikpokgbfaaGreatDoor
