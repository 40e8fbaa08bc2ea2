/- Contracts of package vars and of lit.Holds, lit.Any, by the abstract machine; no condition. -/
import Derived.Test.YtecdhmiamlgibaaDoorCvG
import Derived.Test.YtecdhmiamlgibaaDoorWl
import Derived.Test.YtecdhmiamlgibaaDoorIdx
/- Vs: Contracts of package vars and of lit.Holds, lit.Any, by the abstract machine; no condition. -/
namespace Go.Proofs.YtecdhmiamlgibaaDoor
set_option linter.unusedVariables false
set_option linter.unusedSimpArgs false
set_option linter.unusedSectionVars false
open Go.RowKit
open Wlk
attribute [-simp] List.getD_eq_getElem?_getD
set_option maxRecDepth 100000

theorem quo64_lo {v : Int} (h1 : 1 ≤ v) (h2 : v ≤ 64) : (v - 1).tdiv 64 = 0 ∧ (v - 1).tmod 64 = v - 1 := by
 rw [Int.tdiv_eq_ediv_of_nonneg (by omega), Int.tmod_eq_emod_of_nonneg (by omega)]; omega
theorem quo64_hi {v : Int} (h1 : 65 ≤ v) (h2 : v ≤ 128) : (v - 1).tdiv 64 = 1 ∧ (v - 1).tmod 64 = v - 65 := by
 rw [Int.tdiv_eq_ediv_of_nonneg (by omega), Int.tmod_eq_emod_of_nonneg (by omega)]; omega
theorem u64w {x : Int} (h1 : 0 ≤ x) (h2 : x ≤ 18446744073709551615) : IntKind.u64.wrap x = x := by
 rw [IntKind.wrap_u64]; omega
def placeA (v : Int) : AV := if 1 ≤ v ∧ v ≤ 64 then .tup [.v (.int .i64 0), .v (WV (BitVec.twoPow 64 (v - 1).toNat)), .v (.bool true)] else if 65 ≤ v ∧ v ≤ 128 then .tup [.v (.int .i64 1), .v (WV (BitVec.twoPow 64 (v - 65).toNat)), .v (.bool true)] else .tup [.v (.int .i64 0), .v (.int .u64 0), .v (.bool false)]
@[simp] theorem i64_lit (n : Nat) (h : n ≤ 9223372036854775807) : IntKind.i64.wrap (@OfNat.ofNat Int n instOfNat) = @OfNat.ofNat Int n instOfNat := i64n n h
@[simp] theorem u64_lit (n : Nat) (h : n ≤ 18446744073709551615) : IntKind.u64.wrap (@OfNat.ofNat Int n instOfNat) = @OfNat.ofNat Int n instOfNat := u64w (Int.natCast_nonneg n) (by show (n : Int) ≤ _; omega)
@[simp] theorem i64_zero : IntKind.i64.wrap 0 = 0 := rfl
@[simp] theorem i64_one : IntKind.i64.wrap 1 = 1 := rfl
@[simp] theorem u64_zero : IntKind.u64.wrap 0 = 0 := rfl
@[simp] theorem u64_one : IntKind.u64.wrap 1 = 1 := rfl
theorem bits64 : IntKind.u64.bits = 64 := rfl
theorem shl_lo {v : Int} (h1 : 1 ≤ v) (h2 : v ≤ 64) : min (v.toNat - 1) IntKind.u64.bits = v.toNat - 1 ∧ IntKind.u64.wrap (2 ^ (v.toNat - 1)) = ((BitVec.twoPow 64 (v - 1).toNat).toNat : Int) := by
 have e : v.toNat - 1 = (v - 1).toNat := by omega
 refine ⟨by rw [bits64]; omega, ?_⟩
 rw [e]; exact shift_one _ (by omega)
theorem shl_hi {v : Int} (h1 : 65 ≤ v) (h2 : v ≤ 128) : min (v - 65).toNat IntKind.u64.bits = (v - 65).toNat ∧ IntKind.u64.wrap (2 ^ (v - 65).toNat) = ((BitVec.twoPow 64 (v - 65).toNat).toNat : Int) := by
 refine ⟨by rw [bits64]; omega, ?_⟩
 exact shift_one _ (by omega)
theorem place_p (v : Int) (hv : okI v = true) : FnPure Tryd.prog 54 [.v (.int .i64 v)] (placeA v) := by
 obtain ⟨b1, b2⟩ := okI_iff.1 hv
 unfold placeA
 by_cases h1 : 1 ≤ v ∧ v ≤ 64
 ·obtain ⟨h1, h2⟩ := h1
  rw [if_pos ⟨h1, h2⟩]
  obtain ⟨q1, q2⟩ := quo64_lo h1 h2
  obtain ⟨g1, g2⟩ := shl_lo h1 h2
  generalize BitVec.twoPow 64 (v - 1).toNat = bt at g2 ⊢
  have f1 : (decide (v < 1)) = false := by simp; omega
  have f2 : (decide (128 < v)) = false := by simp; omega
  have f3 : ¬ (v - 1 < 0) := by omega
  have w1 : IntKind.i64.wrap (v - 1) = v - 1 := i64w (by omega) (by omega)
  have w2 : IntKind.u64.wrap (v - 1) = v - 1 := u64w (by omega) (by omega)
  refine fn_sp TT_ok Tryd.func54 (c := _) rfl (by simp [Tryd.ntmps54]) (fun B hI0 hro => ?_)
  rw [Tryd.ntmps54]
  simp only [enumA]
  refine amGo PT1_ok (h := ?_)
  (refine amRt Tryd.results54 (h := ?_); try simp [*])
 ·rw [if_neg h1]
  by_cases h2 : 65 ≤ v ∧ v ≤ 128
  ·rw [if_pos h2]
   obtain ⟨h2, h3⟩ := h2
   obtain ⟨q1, q2⟩ := quo64_hi h2 h3
   obtain ⟨g1, g2⟩ := shl_hi h2 h3
   generalize BitVec.twoPow 64 (v - 65).toNat = bt at g2 ⊢
   generalize hq : (v - 65).toNat = q at g1 g2
   have f1 : (decide (v < 1)) = false := by simp; omega
   have f2 : (decide (128 < v)) = false := by simp; omega
   have f3 : ¬ (v - 65 < 0) := by omega
   have w1 : IntKind.i64.wrap (v - 1) = v - 1 := i64w (by omega) (by omega)
   have w2 : IntKind.u64.wrap (v - 65) = v - 65 := u64w (by omega) (by omega)
   clear h1
   refine fn_sp TT_ok Tryd.func54 (c := _) rfl (by simp [Tryd.ntmps54]) (fun B hI0 hro => ?_)
   rw [Tryd.ntmps54]
   simp only [enumA]
   refine amGo PT1_ok (h := ?_)
   (refine amRt Tryd.results54 (h := ?_); try simp [*])
  ·rw [if_neg h2]
   by_cases h3 : v < 1
   ·have f1 : (decide (v < 1)) = true := by simp; omega
    clear h1 h2
    refine fn_sp TT_ok Tryd.func54 (c := _) rfl (by simp [Tryd.ntmps54]) (fun B hI0 hro => ?_)
    rw [Tryd.ntmps54]
    simp only [enumA]
    refine amGo PT1_ok (h := ?_)
    (refine amRt Tryd.results54 (h := ?_); try simp [*])
   ·have f1 : (decide (v < 1)) = false := by simp; omega
    have f2 : (decide (128 < v)) = true := by simp; omega
    clear h1 h2
    refine fn_sp TT_ok Tryd.func54 (c := _) rfl (by simp [Tryd.ntmps54]) (fun B hI0 hro => ?_)
    rw [Tryd.ntmps54]
    simp only [enumA]
    refine amGo PT1_ok (h := ?_)
    (refine amRt Tryd.results54 (h := ?_); try simp [*])
def wAnd (x y : BitVec 64) : BitVec 64 := x &&& y
def wOr (x y : BitVec 64) : BitVec 64 := x ||| y
def wAndN (x y : BitVec 64) : BitVec 64 := x &&& ~~~ y
@[simp ↓ high] theorem d_wand (x y : BitVec 64) : IntKind.u64.wrap ((BitVec.ofInt IntKind.u64.bits (x.toNat : Int) &&& BitVec.ofInt IntKind.u64.bits (y.toNat : Int)).toNat : Int) = ((wAnd x y).toNat : Int) := by
 rw [bvInt, bvInt]; exact wrap_nat _
@[simp ↓ high] theorem d_wor (x y : BitVec 64) : IntKind.u64.wrap ((BitVec.ofInt IntKind.u64.bits (x.toNat : Int) ||| BitVec.ofInt IntKind.u64.bits (y.toNat : Int)).toNat : Int) = ((wOr x y).toNat : Int) := by
 rw [bvInt, bvInt]; exact wrap_nat _
@[simp ↓ high] theorem d_wandn (x y : BitVec 64) : IntKind.u64.wrap ((BitVec.ofInt IntKind.u64.bits (x.toNat : Int) &&& ~~~ BitVec.ofInt IntKind.u64.bits (y.toNat : Int)).toNat : Int) = ((wAndN x y).toNat : Int) := by
 rw [bvInt, bvInt]; exact wrap_nat _
theorem word_bit {x : BitVec 64} {k : Nat} (h : k < 64) : (((wAnd x (BitVec.twoPow 64 k)).toNat : Int) != 0) = x.getLsbD k := by
 have := and_twoPow x k h
 unfold wAnd
 rw [bne, this, Bool.not_not]
theorem lo_op (s t : BitVec 128) : lo (s &&& t) = wAnd (lo s) (lo t) ∧ hi (s &&& t) = wAnd (hi s) (hi t) ∧ lo (s ||| t) = wOr (lo s) (lo t) ∧ hi (s ||| t) = wOr (hi s) (hi t) ∧ lo (s &&& ~~~ t) = wAndN (lo s) (lo t) ∧ hi (s &&& ~~~ t) = wAndN (hi s) (hi t) := by
 unfold wAnd wOr wAndN
 refine ⟨?_, ?_, ?_, ?_, ?_, ?_⟩ <;> apply BitVec.eq_of_getLsbD_eq <;> intro k hk <;> simp only [lo_bit, hi_bit, BitVec.getLsbD_and, BitVec.getLsbD_or, BitVec.getLsbD_not, hk, show k < 128 by omega, show 64 + k < 128 by omega, decide_true, Bool.true_and]
@[simp] def g_place : List AV → Option (AV × Bool)
 | [.v (.int .i64 v)] => if (okI v) = true then some (placeA v, false) else none
 | _ => none
theorem e_place : EntOk Tryd.prog 54 g_place := ent_pure (by kernel_rfl) fun args r fr h => by
 unfold g_place at h
 split at h
 ·rename_i v
  split at h
  ·rename_i hc
   have o0 := hc
   cases h
   exact ⟨FnPure.cov (place_p v o0) (.cons (Cov.refl _) .nil), rfl⟩
  ·cases h
 ·cases h

def l9 : List (FuncId × (List AV → Option (AV × Bool))) :=
 (54, g_place) :: l1
theorem l9_ok : ∀ p ∈ l9, EntOk Tryd.prog p.1 p.2 := ent_cons e_place (l1_ok)
def PT9 : PTab := tab l9
theorem PT9_ok : PTok Tryd.prog PT9 := tab_ok l9_ok
@[simp] theorem PT9_place : PT9 54 = g_place := rfl
@[simp] theorem PT9_old (f : FuncId) (h : decide (f ≠ 54) = true) : PT9 f = PT1 f := tab_old (of_decide_eq_true h)
end Go.Proofs.YtecdhmiamlgibaaDoor
/- Vs2: Contracts of package vars (sets) and of lit.Holds, lit.Any, by the abstract machine; no condition. -/
namespace Go.Proofs.YtecdhmiamlgibaaDoor
set_option linter.unusedVariables false
set_option linter.unusedSimpArgs false
set_option linter.unusedSectionVars false
open Go.RowKit
open Wlk
attribute [-simp] List.getD_eq_getElem?_getD
set_option maxRecDepth 100000

theorem vHas_p (s : BitVec 128) (v : Int) (hv : okI v = true) : FnPure Tryd.prog 36 [aSet s, .v (.int .i64 v)] (.v (.bool (sHas s v))) := by
 unfold aSet WV
 by_cases h1 : 1 ≤ v ∧ v ≤ 64
 ·have hp : placeA v = .tup [.v (.int .i64 0), .v (WV (BitVec.twoPow 64 (v - 1).toNat)), .v (.bool true)] := if_pos h1
  have hb := word_bit (x := lo s) (k := (v - 1).toNat) (by omega)
  rw [sHas_lo s v h1.1 h1.2]
  generalize BitVec.twoPow 64 (v - 1).toNat = bt at hp hb
  generalize (lo s).getLsbD (v - 1).toNat = r at hb ⊢
  clear h1
  refine fn_sp TT_ok Tryd.func36 (c := _) rfl (by simp [Tryd.ntmps36]) (fun B hI0 hro => ?_)
  rw [Tryd.ntmps36]
  simp only [enumA]
  refine amGo PT9_ok (h := ?_)
  (refine amRt Tryd.results36 (h := ?_); try simp [*])
 ·by_cases h2 : 65 ≤ v ∧ v ≤ 128
  ·have hp : placeA v = .tup [.v (.int .i64 1), .v (WV (BitVec.twoPow 64 (v - 65).toNat)), .v (.bool true)] := by unfold placeA; rw [if_neg h1, if_pos h2]
   have hb := word_bit (x := hi s) (k := (v - 65).toNat) (by omega)
   rw [sHas_hi s v h2.1 h2.2]
   generalize BitVec.twoPow 64 (v - 65).toNat = bt at hp hb
   generalize (hi s).getLsbD (v - 65).toNat = r at hb ⊢
   clear h1 h2
   refine fn_sp TT_ok Tryd.func36 (c := _) rfl (by simp [Tryd.ntmps36]) (fun B hI0 hro => ?_)
   rw [Tryd.ntmps36]
   simp only [enumA]
   refine amGo PT9_ok (h := ?_)
   (refine amRt Tryd.results36 (h := ?_); try simp [*])
  ·have hp : placeA v = .tup [.v (.int .i64 0), .v (.int .u64 0), .v (.bool false)] := by unfold placeA; rw [if_neg h1, if_neg h2]
   rw [sHas_out s v (by omega)]
   clear h1 h2
   refine fn_sp TT_ok Tryd.func36 (c := _) rfl (by simp [Tryd.ntmps36]) (fun B hI0 hro => ?_)
   rw [Tryd.ntmps36]
   simp only [enumA]
   refine amGo PT9_ok (h := ?_)
   (refine amRt Tryd.results36 (h := ?_); try simp [*])
theorem vMinus_p (s t : BitVec 128) : FnPure Tryd.prog 31 [aSet s, aSet t] (aSet (s &&& ~~~ t)) := by
 obtain ⟨_, _, _, _, h1, h2⟩ := lo_op s t
 unfold aSet WV
 rw [h1, h2]
 refine fn_sp TT_ok Tryd.func31 (c := _) rfl (by simp [Tryd.ntmps31]) (fun B hI0 hro => ?_)
 rw [Tryd.ntmps31]
 simp only [enumA]
 refine amGo PT9_ok (h := ?_)
 (refine amRt Tryd.results31 (h := ?_); try simp [*])
theorem vCut_p (s t : BitVec 128) : FnPure Tryd.prog 22 [aSet s, aSet t] (aSet (s &&& t)) := by
 obtain ⟨h1, h2, _⟩ := lo_op s t
 unfold aSet WV
 rw [h1, h2]
 refine fn_sp TT_ok Tryd.func22 (c := _) rfl (by simp [Tryd.ntmps22]) (fun B hI0 hro => ?_)
 rw [Tryd.ntmps22]
 simp only [enumA]
 refine amGo PT9_ok (h := ?_)
 (refine amRt Tryd.results22 (h := ?_); try simp [*])
theorem vUnion_p (s t : BitVec 128) : FnPure Tryd.prog 21 [aSet s, aSet t] (aSet (s ||| t)) := by
 obtain ⟨_, _, h1, h2, _⟩ := lo_op s t
 unfold aSet WV
 rw [h1, h2]
 refine fn_sp TT_ok Tryd.func21 (c := _) rfl (by simp [Tryd.ntmps21]) (fun B hI0 hro => ?_)
 rw [Tryd.ntmps21]
 simp only [enumA]
 refine amGo PT9_ok (h := ?_)
 (refine amRt Tryd.results21 (h := ?_); try simp [*])
@[simp] def g_vHas : List AV → Option (AV × Bool)
 | [a0, .v (.int .i64 v)] => (match toSet a0 with | some s => if (okI v) = true then some (.v (.bool (sHas s v)), false) else none | none => none)
 | _ => none
theorem e_vHas : EntOk Tryd.prog 36 g_vHas := ent_pure (by kernel_rfl) fun args r fr h => by
 unfold g_vHas at h
 split at h
 ·rename_i a0 v
  split at h
  ·rename_i s t0
   split at h
   ·rename_i hc
    have o1 := hc
    cases h
    exact ⟨FnPure.cov (vHas_p s v o1) (.cons (toSet_inv t0 ▸ Cov.refl _) (.cons (Cov.refl _) .nil)), rfl⟩
   ·cases h
  ·cases h
 ·cases h

@[simp] def g_vMinus : List AV → Option (AV × Bool)
 | [a0, a1] => (match toSet a0 with | some s => (match toSet a1 with | some t => if (true) = true then some (aSet (s &&& ~~~ t), false) else none | none => none) | none => none)
 | _ => none
theorem e_vMinus : EntOk Tryd.prog 31 g_vMinus := ent_pure (by kernel_rfl) fun args r fr h => by
 unfold g_vMinus at h
 split at h
 ·rename_i a0 a1
  split at h
  ·rename_i s t0
   split at h
   ·rename_i t t1
    split at h
    ·rename_i hc
     cases h
     exact ⟨FnPure.cov (vMinus_p s t) (.cons (toSet_inv t0 ▸ Cov.refl _) (.cons (toSet_inv t1 ▸ Cov.refl _) .nil)), rfl⟩
    ·cases h
   ·cases h
  ·cases h
 ·cases h

@[simp] def g_vCut : List AV → Option (AV × Bool)
 | [a0, a1] => (match toSet a0 with | some s => (match toSet a1 with | some t => if (true) = true then some (aSet (s &&& t), false) else none | none => none) | none => none)
 | _ => none
theorem e_vCut : EntOk Tryd.prog 22 g_vCut := ent_pure (by kernel_rfl) fun args r fr h => by
 unfold g_vCut at h
 split at h
 ·rename_i a0 a1
  split at h
  ·rename_i s t0
   split at h
   ·rename_i t t1
    split at h
    ·rename_i hc
     cases h
     exact ⟨FnPure.cov (vCut_p s t) (.cons (toSet_inv t0 ▸ Cov.refl _) (.cons (toSet_inv t1 ▸ Cov.refl _) .nil)), rfl⟩
    ·cases h
   ·cases h
  ·cases h
 ·cases h

@[simp] def g_vUnion : List AV → Option (AV × Bool)
 | [a0, a1] => (match toSet a0 with | some s => (match toSet a1 with | some t => if (true) = true then some (aSet (s ||| t), false) else none | none => none) | none => none)
 | _ => none
theorem e_vUnion : EntOk Tryd.prog 21 g_vUnion := ent_pure (by kernel_rfl) fun args r fr h => by
 unfold g_vUnion at h
 split at h
 ·rename_i a0 a1
  split at h
  ·rename_i s t0
   split at h
   ·rename_i t t1
    split at h
    ·rename_i hc
     cases h
     exact ⟨FnPure.cov (vUnion_p s t) (.cons (toSet_inv t0 ▸ Cov.refl _) (.cons (toSet_inv t1 ▸ Cov.refl _) .nil)), rfl⟩
    ·cases h
   ·cases h
  ·cases h
 ·cases h

def l10 : List (FuncId × (List AV → Option (AV × Bool))) :=
 (36, g_vHas) :: (31, g_vMinus) :: (22, g_vCut) :: (21, g_vUnion) :: l9
theorem l10_ok : ∀ p ∈ l10, EntOk Tryd.prog p.1 p.2 := ent_cons e_vHas (ent_cons e_vMinus (ent_cons e_vCut (ent_cons e_vUnion (l9_ok))))
def PT10 : PTab := tab l10
theorem PT10_ok : PTok Tryd.prog PT10 := tab_ok l10_ok
@[simp] theorem PT10_vHas : PT10 36 = g_vHas := rfl
@[simp] theorem PT10_vMinus : PT10 31 = g_vMinus := rfl
@[simp] theorem PT10_vCut : PT10 22 = g_vCut := rfl
@[simp] theorem PT10_vUnion : PT10 21 = g_vUnion := rfl
@[simp] theorem PT10_old (f : FuncId) (h : decide (f ≠ 36 ∧ f ≠ 31 ∧ f ≠ 22 ∧ f ≠ 21) = true) : PT10 f = PT9 f := (fun h => Eq.trans (tab_old h.1) (Eq.trans (tab_old h.2.1) (Eq.trans (tab_old h.2.2.1) (tab_old h.2.2.2)))) (of_decide_eq_true h)
end Go.Proofs.YtecdhmiamlgibaaDoor
/- Vs3: Contracts of vars.Sub and lit.Holds, by the abstract machine; no condition. -/
namespace Go.Proofs.YtecdhmiamlgibaaDoor
set_option linter.unusedVariables false
set_option linter.unusedSimpArgs false
set_option linter.unusedSectionVars false
open Go.RowKit
open Wlk
attribute [-simp] List.getD_eq_getElem?_getD
set_option maxRecDepth 100000

def sSub (s t : BitVec 128) : Bool := s &&& ~~~ t == 0#128
theorem set_zero (s : BitVec 128) : ((((lo s).toNat : Int) == 0) && (((hi s).toNat : Int) == 0)) = (s == 0#128) := by
 rw [Bool.eq_iff_iff]
 simp only [Bool.and_eq_true, beq_iff_eq]
 constructor
 ·rintro ⟨h1, h2⟩
  refine words_ext (BitVec.eq_of_toNat_eq ?_) (BitVec.eq_of_toNat_eq ?_)
  ·have : (lo 0#128).toNat = 0 := by decide
   omega
  ·have : (hi 0#128).toNat = 0 := by decide
   omega
 ·rintro rfl
  exact ⟨by decide, by decide⟩
theorem vSub_p (s t : BitVec 128) : FnPure Tryd.prog 72 [aSet s, aSet t] (.v (.bool (sSub s t))) := by
 have h := set_zero (s &&& ~~~ t)
 have ha : aSet (s &&& ~~~ t) = .agg [.v (.int .u64 ((lo (s &&& ~~~ t)).toNat : Int)), .v (.int .u64 ((hi (s &&& ~~~ t)).toNat : Int))] := rfl
 unfold sSub
 generalize hd : s &&& ~~~ t = d at h ha ⊢
 rw [show aSet s = .agg [.v (.int .u64 ((lo s).toNat : Int)), .v (.int .u64 ((hi s).toNat : Int))] from rfl, show aSet t = .agg [.v (.int .u64 ((lo t).toNat : Int)), .v (.int .u64 ((hi t).toNat : Int))] from rfl]
 refine fn_sp TT_ok Tryd.func72 (c := _) rfl (by simp [Tryd.ntmps72]) (fun B hI0 hro => ?_)
 rw [Tryd.ntmps72]
 simp only [enumA]
 refine amGo PT10_ok (h := ?_)
 (refine amRt Tryd.results72 (h := ?_); try simp [*])
theorem litHolds_p (s : BitVec 128) (l : Int) (hl : okI l = true) : FnPure Tryd.prog 56 [aSet s, .v (.int .i64 l)] (.v (.bool (litHolds s l))) := by
 obtain ⟨h1, h2⟩ := litVar_range l
 have ho : okI (litVar l) = true := okI_iff.2 ⟨by omega, by omega⟩
 unfold litHolds aSet WV
 by_cases hv : litVar l = 0
 ·have f1 : (litVar l != 0) = false := by rw [hv]; rfl
  have f2 : decide (0 < litVar l) = false := by rw [hv]; rfl
  rw [f2, Bool.false_and]
  clear hv f2
  refine fn_sp TT_ok Tryd.func56 (c := _) rfl (by simp [Tryd.ntmps56]) (fun B hI0 hro => ?_)
  rw [Tryd.ntmps56]
  simp only [enumA]
  refine amGo PT10_ok (h := ?_)
  (refine amRt Tryd.results56 (h := ?_); try simp [*])
 ·have f1 : (litVar l != 0) = true := by simpa using hv
  have f2 : decide (0 < litVar l) = true := by simp; omega
  rw [f2, Bool.true_and]
  clear hv f2
  refine fn_sp TT_ok Tryd.func56 (c := _) rfl (by simp [Tryd.ntmps56]) (fun B hI0 hro => ?_)
  rw [Tryd.ntmps56]
  simp only [enumA]
  refine amGo PT10_ok (h := ?_)
  (refine amRt Tryd.results56 (h := ?_); try simp [*])
@[simp] def g_vSub : List AV → Option (AV × Bool)
 | [a0, a1] => (match toSet a0 with | some s => (match toSet a1 with | some t => if (true) = true then some (.v (.bool (sSub s t)), false) else none | none => none) | none => none)
 | _ => none
theorem e_vSub : EntOk Tryd.prog 72 g_vSub := ent_pure (by kernel_rfl) fun args r fr h => by
 unfold g_vSub at h
 split at h
 ·rename_i a0 a1
  split at h
  ·rename_i s t0
   split at h
   ·rename_i t t1
    split at h
    ·rename_i hc
     cases h
     exact ⟨FnPure.cov (vSub_p s t) (.cons (toSet_inv t0 ▸ Cov.refl _) (.cons (toSet_inv t1 ▸ Cov.refl _) .nil)), rfl⟩
    ·cases h
   ·cases h
  ·cases h
 ·cases h

@[simp] def g_litHolds : List AV → Option (AV × Bool)
 | [a0, .v (.int .i64 l)] => (match toSet a0 with | some s => if (okI l) = true then some (.v (.bool (litHolds s l)), false) else none | none => none)
 | _ => none
theorem e_litHolds : EntOk Tryd.prog 56 g_litHolds := ent_pure (by kernel_rfl) fun args r fr h => by
 unfold g_litHolds at h
 split at h
 ·rename_i a0 l
  split at h
  ·rename_i s t0
   split at h
   ·rename_i hc
    have o1 := hc
    cases h
    exact ⟨FnPure.cov (litHolds_p s l o1) (.cons (toSet_inv t0 ▸ Cov.refl _) (.cons (Cov.refl _) .nil)), rfl⟩
   ·cases h
  ·cases h
 ·cases h

def l11 : List (FuncId × (List AV → Option (AV × Bool))) :=
 (72, g_vSub) :: (56, g_litHolds) :: l10
theorem l11_ok : ∀ p ∈ l11, EntOk Tryd.prog p.1 p.2 := ent_cons e_vSub (ent_cons e_litHolds (l10_ok))
def PT11 : PTab := tab l11
theorem PT11_ok : PTok Tryd.prog PT11 := tab_ok l11_ok
@[simp] theorem PT11_vSub : PT11 72 = g_vSub := rfl
@[simp] theorem PT11_litHolds : PT11 56 = g_litHolds := rfl
@[simp] theorem PT11_old (f : FuncId) (h : decide (f ≠ 72 ∧ f ≠ 56) = true) : PT11 f = PT10 f := (fun h => Eq.trans (tab_old h.1) (tab_old h.2)) (of_decide_eq_true h)
end Go.Proofs.YtecdhmiamlgibaaDoor
/- Vs4: Contract of lit.Any, by the abstract machine; no condition. -/
namespace Go.Proofs.YtecdhmiamlgibaaDoor
set_option linter.unusedVariables false
set_option linter.unusedSimpArgs false
set_option linter.unusedSectionVars false
open Go.RowKit
set_option maxRecDepth 100000

def l12 : List (FuncId × (List AV → Option (AV × Bool))) :=
 l11
theorem l12_ok : ∀ p ∈ l12, EntOk Tryd.prog p.1 p.2 := l11_ok
def PT12 : PTab := tab l12
theorem PT12_ok : PTok Tryd.prog PT12 := tab_ok l12_ok
@[simp] theorem PT12_old (f : FuncId) : PT12 f = PT11 f := rfl
end Go.Proofs.YtecdhmiamlgibaaDoor
