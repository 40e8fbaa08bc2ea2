/- verify.side; no condition. -/
import Derived.Test.YtllkogdgmmcfgaaGreatDoorVnG
import Derived.Test.YtllkogdgmmcfgaaGreatDoorWl
import Derived.Test.YtllkogdgmmcfgaaGreatDoorTfG
/- Vs23: verify.side; no condition. -/
namespace Go.Proofs.YtllkogdgmmcfgaaGreatDoor
set_option linter.unusedVariables false
set_option linter.unusedSimpArgs false
set_option linter.unusedSectionVars false
open Go.RowKit
open Wlk
attribute [-simp] List.getD_eq_getElem?_getD
set_option maxRecDepth 100000
theorem prfB_of {N : Int} {L : List (List Int)} {ns : List Nd} {cl : List Cl} (h : Prf N L ns cl) : prfB N L ns cl = true := by
 unfold prfB
 simp only [h.hN, h.hL, h.hns, h.hcl, h.hz, h.hv, h.hlen, decide_true, Bool.and_self]
theorem prf_ids (N : Int) (L : List (List Int)) (ns : List Nd) (cl : List Cl) : (aPrf N L ns cl).ids = [] := by simp [AV.ids, idsL, idsLL, aPrf]
theorem okInts_dropN {D : List Int} (h : okInts D = true) (k : Nat) : okInts (D.drop k) = true := by
 unfold okInts at h ⊢
 rw [Bool.and_eq_true, decide_eq_true_eq, List.all_eq_true] at h ⊢
 exact ⟨fun x hx => h.1 x (List.mem_of_mem_drop hx), by rw [List.length_drop]; omega⟩
theorem idx_cutI {ns : List Nd} {is : List Int} (h : idxB ns is = true) (k : Nat) : idxB ns (cutI is k) = true := by
 refine List.all_eq_true.2 fun x hx => List.all_eq_true.1 h x ?_
 unfold cutI at hx
 rcases List.mem_append.1 hx with hx | hx
 ·exact List.mem_of_mem_take hx
 ·exact List.mem_of_mem_drop hx
set_option maxHeartbeats 16000000 in
theorem side_p (N : Int) (L : List (List Int)) (ns : List Nd) (cl : List Cl) (R : List (List Int)) (i l : Int) (hp : Prf N L ns cl) (hR : okRows R = true) (hz : checkT N R = 0) (hi0 : 0 ≤ i) (hi1 : i < (ns.length : Int)) (hl : okI l = true) (hlo : litOk l N = true) : FnPure Tryz.prog 50 [aPrf N L ns cl, aTh N R, .v (.int .i64 i), .v (.int .i64 l)] (.v (.bool (sideV N L ns cl R i l))) := by
 obtain ⟨m, rfl⟩ := Int.eq_ofNat_of_zero_le hi0
 have hm : m < ns.length := by omega
 obtain ⟨o1, o2, o3, o4⟩ := okNs_at hp.hns hm
 have hsv : sideV N L ns cl R (m : Int) l = (if (ns.getD m nd0).1 = 2 then decide ((ns.getD m nd0).2.1 = l) && decide (gvV R l = []) else if (ns.getD m nd0).1 = 3 then match (ns.getD m nd0).2.2.findIdx? (litI ns l) with
  | none => false
  | some k => fitV N L ns cl (gvV R l) (cutI (ns.getD m nd0).2.2 k) else false) := rfl
 have hix := prf_in hp hm
 have hNo := hp.hN
 have hpB := prfB_of hp
 have hgz := gv_check hz l
 have hgo := okRows_check hgz
 obtain ⟨G, hG⟩ : ∃ G, gvV R l = G := ⟨_, rfl⟩
 rw [hG] at hsv hgz hgo
 have hfe : aTh N G = .agg [.v (.int .i64 N), aRows G] := rfl
 obtain ⟨K, hK⟩ : ∃ K, (ns.getD m nd0).1 = K := ⟨_, rfl⟩
 obtain ⟨j, hj⟩ : ∃ j, (ns.getD m nd0).2.1 = j := ⟨_, rfl⟩
 obtain ⟨is, his⟩ : ∃ is, (ns.getD m nd0).2.2 = is := ⟨_, rfl⟩
 rw [hK, hj, his] at hsv
 rw [hK] at o1
 rw [hj] at o2
 rw [his] at o3 o4 hix
 have HSV := Lib.hid hsv
 clear hsv hi0
 unfold aTh aPrf aNds
 refine fn_sp TT_ok Tryz.func50 (c := _) rfl (by simp [Tryz.ntmps50]) (fun B hI0 hro => ?_)
 rw [Tryz.ntmps50]
 simp only [enumA]
 refine amStr (h := ?_)
 refine amReg PT203_ok (h := ?_)
 refine amStr (h := ?_)
 refine amReg PT203_ok (h := ?_)
 refine amStr (h := ?_)
 refine amReg PT203_ok (h := ?_)
 refine amStr (h := ?_)
 refine s_weak (τ := ⟨61, [(0, aPrf N L ns cl), (2, .v (.int .i64 (m : Int))), (3, .v (.int .i64 l)), (5, .ptr 0 0 0), (9, .ptr 1 0 0), (8, .v (.bool false)), (20, .v (.int .i64 K))], [(0, ⟨24, 2, [[.v (.int .i64 N), aRows R]]⟩), (1, ⟨32, 3, [[.v (.int .i64 K), .v (.int .i64 j), aInts is]]⟩)], [1, 0]⟩) ?_ ?_
 ·(refine weak_of (fun q => if q = 1 then 9 else q) ⟨rfl, ?_, ?_, ?_⟩ <;> ((try simp only [List.mem_cons, List.not_mem_nil, or_false, forall_eq_or_imp, forall_eq]); (try simp (disch := omega) [lk, AV.ids, idsL, idsLL, AV.ren, renL, renLL, i64w, *])))
  all_goals exact ⟨(AV.ren_pure _ _ (prf_ids N L ns cl)).symm, fun k h => by rw [prf_ids] at h; cases h⟩
 by_cases hk2 : K = 2
 ·subst hk2
  have hF := HSV.out
  rw [if_pos rfl] at hF
  rw [hF]
  by_cases hjl : j = l
  ·rw [decide_eq_true hjl, Bool.true_and]
   have hjb : (j == l) = true := by simpa using hjl
   have hgn : ((G.length : Int) == 0) = decide (G = []) := by cases G <;> simp <;> omega
   refine amStr (h := ?_)
   refine amReg PT203_ok (h := ?_)
   refine amStr (h := ?_)
   refine amReg PT203_ok (h := ?_)
   refine amStr (h := ?_)
   (refine amRt Tryz.results50 (h := ?_); try simp [*])
  ·rw [decide_eq_false hjl, Bool.false_and]
   have hjb : (j == l) = false := by simpa using hjl
   refine amStr (h := ?_)
   refine amReg PT203_ok (h := ?_)
   refine amStr (h := ?_)
   refine amReg PT203_ok (h := ?_)
   refine amStr (h := ?_)
   (refine amRt Tryz.results50 (h := ?_); try simp [*])
 ·have hkb : (K == 2) = false := by simpa using hk2
  have hF := HSV.out
  rw [if_neg hk2] at hF
  by_cases hk3 : K = 3
  ·subst hk3
   rw [if_pos rfl] at hF
   have hFI := Lib.hid hF
   clear hF
   refine amStr (h := ?_)
   refine amReg PT203_ok (h := ?_)
   refine amStr (h := ?_)
   refine amReg PT203_ok (h := ?_)
   refine amStr (h := ?_)
   unfold aPrf
   refine amReg PT203_ok (h := ?_)
   refine amStr (h := ?_)
   cases hfi : is.findIdx? (litI ns l) with
   | none =>
    have hix2 : idxF is (litI ns l) = -1 := by unfold idxF; rw [hfi]
    have hF := hFI.out
    rw [hfi] at hF
    rw [hF]
    refine amStr (h := ?_)
    refine amDrs PT203_ok (h := ?_)
    refine amStr (h := ?_)
    (refine amRt Tryz.results50 (h := ?_); try simp [*])
   | some k =>
    have hix2 : idxF is (litI ns l) = (k : Int) := by unfold idxF; rw [hfi]
    have hF := hFI.out
    rw [hfi] at hF
    simp only at hF
    rw [hF]
    have hkl : k < is.length := (List.findIdx?_eq_some_iff_getElem.1 hfi).1
    have hwk : IntKind.i64.wrap ((k : Int) + 1) = (k : Int) + 1 := i64w (by omega) (by omega)
    have hki : (k : Int) < (is.length : Int) := by omega
    have hk1 : k + 1 ≤ is.length := hkl
    have hk2i : (k : Int) + 1 ≤ (is.length : Int) := by omega
    have hkn : k ≤ is.length := by omega
    have hkn2 : (k : Int) ≤ (is.length : Int) := by omega
    have hci := idx_cutI hix k
    have hoc := okInts_cut hkl o3
    have hsum : (is.take k).length + (is.drop (k + 1)).length ≤ 400 := by rw [List.length_take, List.length_drop]; omega
    have hA1 := okInts_take o3 k
    have hC1 : okInts (is.drop (k + 1)) = true := okInts_dropN o3 (k + 1)
    have hdC : List.take (is.length - (k + 1)) (List.drop (k + 1) is) = List.drop (k + 1) is := List.take_of_length_le (by rw [List.length_drop]; omega)
    have hge : ((k : Int) ≥ 0) := by omega
    have hcu : cutI is k = is.take k ++ is.drop (k + 1) := rfl
    rw [hcu] at hci ⊢
    obtain ⟨A, hAe⟩ : ∃ A, is.take k = A := ⟨_, rfl⟩
    obtain ⟨C, hCe⟩ : ∃ C, is.drop (k + 1) = C := ⟨_, rfl⟩
    rw [hAe] at hA1
    rw [hCe] at hC1 hdC
    rw [hAe, hCe] at hci hoc hsum ⊢
    have hto : toRows (.sl 1 [[aInts A], [aInts C]]) = some [A, C] := toRows_rows [A, C]
    have hob : List.map (fun i => List.take 1 (List.drop i (aInts A :: aInts C :: List.drop 2 (List.map (fun i => AV.v ([Value.slice none 0 0].getD (i % 1) (Value.tuple #[]))) (List.range 2))))) (List.range 2) = [[aInts A], [aInts C]] := rfl
    have hor : okRows [A, C] = true := by unfold okRows; simp [hA1, hC1]
    have hsum2 : A.length + C.length ≤ 4096 := by omega
    clear hfi hcu hkl hF HSV
    refine amStr (h := ?_)
    refine amDrs PT203_ok (h := ?_)
    refine amStr (h := ?_)
    (refine amRt Tryz.results50 (h := ?_); try simp [*])
  ·rw [if_neg hk3] at hF
   have hkc : (K == 3) = false := by simpa using hk3
   rw [hF]
   refine amStr (h := ?_)
   refine amReg PT203_ok (h := ?_)
   refine amStr (h := ?_)
   refine amReg PT203_ok (h := ?_)
   refine amStr (h := ?_)
   refine amReg PT203_ok (h := ?_)
   refine amStr (h := ?_)
   (refine amRt Tryz.results50 (h := ?_); try simp [*])
end Go.Proofs.YtllkogdgmmcfgaaGreatDoor
/- Vp23: The table with side; no condition. -/
namespace Go.Proofs.YtllkogdgmmcfgaaGreatDoor
set_option linter.unusedVariables false
set_option linter.unusedSimpArgs false
set_option linter.unusedSectionVars false
open Go.RowKit
set_option maxRecDepth 100000
@[simp] def g_vSide : List AV → Option (AV × Bool)
 | [.pt [.v (.int .i64 N), a0, .v (.int .i64 N'), b0, c0], .agg [.v (.int .i64 M), a1], .v (.int .i64 j), .v (.int .i64 l)] => (match toRows a0 with | some L => (match toNds b0 with | some ns => (match toCls c0 with | some cl => (match toRows a1 with | some R => if (decide (N' = N) && prfB N L ns cl && okI M && okRows R && okI j && okI l && (decide (M = N) && decide (checkT N R = 0) && decide (0 ≤ j) && decide (j < (ns.length : Int)) && litOk l N)) = true then some (.v (.bool (sideV N L ns cl R j l)), false) else none | none => none) | none => none) | none => none) | none => none)
 | _ => none
theorem e_vSide : EntOk Tryz.prog 50 g_vSide := ent_pure (by kernel_rfl) fun args r fr h => by
 unfold g_vSide at h
 split at h
 ·rename_i N a0 N' b0 c0 M a1 j l
  split at h
  ·rename_i L t0
   split at h
   ·rename_i ns s0
    split at h
    ·rename_i cl w0
     split at h
     ·rename_i R t1
      split at h
      ·rename_i hc
       simp only [Bool.and_eq_true] at hc
       obtain ⟨⟨⟨⟨⟨⟨e0, o0⟩, m1⟩, o1⟩, o2⟩, o3⟩, hk⟩ := hc
       cases h
       exact ⟨FnPure.cov (by have e1 : M = N := of_decide_eq_true hk.1.1.1.1; subst e1; exact side_p M L ns cl R j l (prf_of o0) o1 (of_decide_eq_true hk.1.1.1.2) (of_decide_eq_true hk.1.1.2) (of_decide_eq_true hk.1.2) o3 hk.2) (.cons (cov_prf2 e0 t0 s0 w0) (.cons (cov_th _ (cov_rows t1)) (.cons (Cov.refl _) (.cons (Cov.refl _) .nil)))), rfl⟩
      ·cases h
     ·cases h
    ·cases h
   ·cases h
  ·cases h
 ·cases h

def l204 : List (FuncId × (List AV → Option (AV × Bool))) :=
 (50, g_vSide) :: l203
theorem l204_ok : ∀ p ∈ l204, EntOk Tryz.prog p.1 p.2 := ent_cons e_vSide (l203_ok)
def PT204 : PTab := tab l204
theorem PT204_ok : PTok Tryz.prog PT204 := tab_ok l204_ok
@[simp] theorem PT204_vSide : PT204 50 = g_vSide := rfl
@[simp] theorem PT204_old (f : FuncId) (h : decide (f ≠ 50) = true) : PT204 f = PT203 f := tab_old (of_decide_eq_true h)
end Go.Proofs.YtllkogdgmmcfgaaGreatDoor
/- Sp: Plain laws of small forms: the names of variables, and a renaming that keeps their order; no program. -/
namespace Go.Proofs.YtllkogdgmmcfgaaGreatDoor
set_option linter.unusedVariables false
set_option linter.unusedSimpArgs false
set_option linter.unusedSectionVars false
open Go.RowKit
set_option maxRecDepth 100000
/-! ### The list of a set -/
theorem listS_eq (s : BitVec 128) : listS s = ((List.range 128).map fun i : Nat => ((i : Int) + 1)).filter fun v => sHas s v := by
 unfold listS wVars bitsW
 rw [show (128 : Nat) = 64 + 64 from rfl, List.range_add, List.map_append, List.filter_append, List.filter_map]
 congr 1
 ·have e : (List.range 64).filter (fun i => (lo s).toNat.testBit i) = (List.range 64).filter ((fun v => sHas s v) ∘ fun i : Nat => ((i : Int) + 1)) := List.filter_congr fun i hi => by
   rw [List.mem_range] at hi
   show (lo s).toNat.testBit i = sHas s ((i : Int) + 1)
   rw [sHas_lo s _ (by omega) (by omega), show ((i : Int) + 1 - 1).toNat = i by omega]; rfl
  rw [e]
  apply List.map_congr_left
  intro i _
  show ((1 + i : Nat) : Int) = (i : Int) + 1
  omega
 ·rw [List.map_map, List.filter_map]
  have e : (List.range 64).filter (fun i => (hi s).toNat.testBit i) = (List.range 64).filter ((fun v => sHas s v) ∘ ((fun i : Nat => ((i : Int) + 1)) ∘ fun x => 64 + x)) := List.filter_congr fun i hi' => by
   rw [List.mem_range] at hi'
   show (hi s).toNat.testBit i = sHas s (((64 + i : Nat) : Int) + 1)
   rw [sHas_hi s _ (by omega) (by omega), show (((64 + i : Nat) : Int) + 1 - 65).toNat = i by omega]; rfl
  rw [e]
  apply List.map_congr_left
  intro i _
  show ((65 + i : Nat) : Int) = ((64 + i : Nat) : Int) + 1
  omega
theorem listS_mem (s : BitVec 128) (v : Int) : v ∈ listS s ↔ sHas s v = true := by
 rw [listS_eq, List.mem_filter, List.mem_map]
 constructor
 ·exact fun h => h.2
 ·intro h
  obtain ⟨h1, h2⟩ := sHas_mem h
  exact ⟨⟨(v - 1).toNat, List.mem_range.2 (by omega), by omega⟩, h⟩
/-! ### Numbers of names -/
def numK (names : List Int) : Nat → List Int
 | 0 => List.replicate 129 0
 | k + 1 => (numK names k).set (names.getD k 0).toNat ((k : Int) + 1)
def numOf (names : List Int) (v : Int) : Int := (numK names names.length).getD v.toNat 0
structure Names (l : List Int) : Prop where
 s : l.Pairwise (· < ·)
 r : ∀ v ∈ l, 1 ≤ v ∧ v ≤ 128
/-! ### A renaming that keeps the order -/
structure Ren (V : Int → Bool) (p : Int → Int) (n : Int) : Prop where
 pos : ∀ v, V v = true → 1 ≤ v ∧ v ≤ 128
 rng : ∀ v, V v = true → 1 ≤ p v ∧ p v ≤ n
 mono : ∀ v u, V v = true → V u = true → v < u → p v < p u
 le : n ≤ 128
def renl (p : Int → Int) (l : Int) : Int := if l < 0 then -(p (litVar l)) else p (litVar l)
def GoodR (V : Int → Bool) (c : List Int) : Prop := ∀ l ∈ c, V (litVar l) = true
section
variable {V : Int → Bool} {p : Int → Int} {n : Int} (h : Ren V p n)
include h
theorem Ren.abs {l : Int} (hl : V (litVar l) = true) : litVar l = l.natAbs ∧ l ≠ 0 ∧ -128 ≤ l ∧ l ≤ 128 := isLit_abs (by unfold isLit; have := h.pos _ hl; simp; omega)
theorem Ren.lit {l : Int} (hl : V (litVar l) = true) : litVar (renl p l) = p (litVar l) ∧ (renl p l < 0 ↔ l < 0) ∧ renl p l ≠ 0 ∧ (renl p l = p (litVar l) ∨ renl p l = -(p (litVar l))) := by
 have h1 := h.rng _ hl
 have h2 := h.le
 have h3 := h.abs hl
 unfold renl
 split
 ·rw [litVar_neg (by omega) (by omega)]; omega
 ·rw [litVar_pos (by omega) (by omega)]; omega
theorem Ren.ok {l : Int} (hl : V (litVar l) = true) : litOk (renl p l) n = true := by
 have h1 := h.rng _ hl
 have h2 := (h.lit hl).1
 unfold litOk
 rw [h2]
 simp; omega
theorem Ren.neg {l : Int} (hl : V (litVar l) = true) : renl p (-l) = -renl p l ∧ litVar (-l) = litVar l := by
 have h3 := h.abs hl
 have e : litVar (-l) = litVar l := by
  rw [h3.1]
  by_cases hn : l < 0
  ·rw [litVar_pos (by omega) (by omega)]; omega
  ·rw [litVar_neg (by omega) (by omega)]; omega
 refine ⟨?_, e⟩
 unfold renl
 rw [e]
 by_cases hn : l < 0
 ·rw [if_neg (by omega), if_pos hn]; omega
 ·rw [if_pos (by omega), if_neg hn]
theorem Ren.inj {x y : Int} (hx : V (litVar x) = true) (hy : V (litVar y) = true) (e : renl p x = renl p y) : x = y := by
 have h1 := h.lit hx
 have h2 := h.lit hy
 have h3 := h.abs hx
 have h4 := h.abs hy
 rw [e] at h1
 have hv : litVar x = litVar y := by
  rcases Int.lt_trichotomy (litVar x) (litVar y) with hh | hh | hh
  ·have := h.mono _ _ hx hy hh; omega
  ·exact hh
  ·have := h.mono _ _ hy hx hh; omega
 have : (x < 0 ↔ y < 0) := by rw [← h1.2.1, ← h2.2.1]
 omega
theorem Ren.lt {x y : Int} (hx : V (litVar x) = true) (hy : V (litVar y) = true) (hl : litLt x y) : litLt (renl p x) (renl p y) := by
 have h1 := h.lit hx
 have h2 := h.lit hy
 have h3 := h.abs hx
 have h4 := h.abs hy
 unfold litLt at *
 rw [h1.1, h2.1]
 rcases hl with hl | ⟨e, hl⟩
 ·exact .inl (h.mono _ _ hx hy hl)
 ·right
  refine ⟨by rw [e], ?_⟩
  have hxn : x < 0 := by omega
  have hyp : ¬ y < 0 := by omega
  unfold renl
  rw [if_pos hxn, if_neg hyp, e]
  have := h.rng _ hy
  omega
theorem Ren.mem {c : List Int} (hc : GoodR V c) {x : Int} (hx : V (litVar x) = true) : renl p x ∈ c.map (renl p) ↔ x ∈ c := by
 rw [List.mem_map]
 exact ⟨fun ⟨y, hy, e⟩ => h.inj (hc y hy) hx e ▸ hy, fun hy => ⟨x, hy, rfl⟩⟩
omit h in
end
/-! ### Variables of clauses -/
theorem sHas_varsRow (S : BitVec 128) (c : List Int) (v : Int) : sHas (varsRow S c c.length) v = (sHas S v || (decide (1 ≤ v ∧ v ≤ 128) && c.any fun l => decide (litVar l = v))) := by
 have : ∀ (c : List Int) (S : BitVec 128), sHas (c.foldl (fun s l => sWith s (litVar l)) S) v = (sHas S v || (decide (1 ≤ v ∧ v ≤ 128) && c.any fun l => decide (litVar l = v))) := by
  intro c
  induction c with
  | nil => intro S; simp
  | cons x c ih =>
   intro S
   rw [List.foldl_cons, ih, sHas_with, List.any_cons, Bool.eq_iff_iff]
   simp only [Bool.or_eq_true, Bool.and_eq_true, decide_eq_true_eq]
   constructor
   ·rintro ((h | ⟨rfl, h⟩) | ⟨h, h2⟩)
    ·exact .inl h
    ·exact .inr ⟨h, .inl rfl⟩
    ·exact .inr ⟨h, .inr h2⟩
   ·rintro (h | ⟨h, rfl | h2⟩)
    ·exact .inl (.inl h)
    ·exact .inl (.inr ⟨rfl, h⟩)
    ·exact .inr ⟨h, h2⟩
 unfold varsRow
 rw [List.take_length]
 exact this c S
theorem sHas_varsT (L : List (List Int)) (v : Int) : sHas (varsT L) v = true ↔ (1 ≤ v ∧ v ≤ 128) ∧ ∃ c ∈ L, ∃ l ∈ c, litVar l = v := by
 have : ∀ (L : List (List Int)) (S : BitVec 128), sHas (L.foldl (fun s c => varsRow s c c.length) S) v = true ↔ sHas S v = true ∨ ((1 ≤ v ∧ v ≤ 128) ∧ ∃ c ∈ L, ∃ l ∈ c, litVar l = v) := by
  intro L
  induction L with
  | nil => intro S; simp
  | cons c L ih =>
   intro S
   rw [List.foldl_cons, ih, sHas_varsRow]
   simp only [Bool.or_eq_true, Bool.and_eq_true, decide_eq_true_eq, List.any_eq_true, List.mem_cons, exists_eq_or_imp]
   constructor
   ·rintro ((h | ⟨h, h2⟩) | ⟨h, h2⟩)
    ·exact .inl h
    ·exact .inr ⟨h, .inl h2⟩
    ·exact .inr ⟨h, .inr h2⟩
   ·rintro (h | ⟨h, h2 | h2⟩)
    ·exact .inl (.inl h)
    ·exact .inl (.inr ⟨h, h2⟩)
    ·exact .inr ⟨h, h2⟩
 unfold varsT varsK
 rw [List.take_length, this]
 simp [sHas_zero]
/-! ### Small forms -/
def smallN (M : List (List Int)) : List Int := listS (varsT M)
def smallR (names : List Int) (c : List Int) : List Int := c.map (renl (numOf names))
def smallL (M : List (List Int)) : List (List Int) := M.map (smallR (smallN M))
/-! ### Keys -/
def litByte (l : Int) : Int := if l < 0 then 127 - l else l - 1
def keyL (U : List (List Int)) : List Int := U.flatMap fun c => (c.length : Int) :: c.map litByte
end Go.Proofs.YtllkogdgmmcfgaaGreatDoor
/- Va23: verify.accepted; no condition. -/
namespace Go.Proofs.YtllkogdgmmcfgaaGreatDoor
set_option linter.unusedVariables false
set_option linter.unusedSimpArgs false
set_option linter.unusedSectionVars false
open Go.RowKit
open Wlk
attribute [-simp] List.getD_eq_getElem?_getD
set_option maxRecDepth 100000
theorem vars_lit {N : Int} {R : List (List Int)} (hz : checkT N R = 0) {v : Int} (hv : v ∈ listS (varsT R)) : (1 ≤ v ∧ v ≤ 128) ∧ litOk v N = true ∧ litOk (-v) N = true := by
 obtain ⟨h1, c, hc, l, hl, h2⟩ := (sHas_varsT R v).1 ((listS_mem _ _).1 hv)
 have h3 := ((checkT_ok hz).2.2.2 c hc).2 l hl
 unfold litOk at h3 ⊢
 rw [h2] at h3
 refine ⟨h1, ?_, ?_⟩
 ·rw [litVar_pos h1.1 h1.2]; exact h3
 ·rw [litVar_neg (by omega) (by omega), Int.neg_neg]; exact h3
theorem idxB_at {ns : List Nd} {is : List Int} (h : idxB ns is = true) {k : Nat} (hk : k < is.length) : 0 ≤ is.getD k 0 ∧ is.getD k 0 < (ns.length : Int) := idxB_mem h (getD_memI hk)
def decB (N : Int) (L : List (List Int)) (ns : List Nd) (cl : List Cl) (R : List (List Int)) (a b : Int) (l : Int) : Bool := sideV N L ns cl R a l && sideV N L ns cl R b (-l)
theorem any_step {α : Type} {f : α → Bool} {l : List α} {k : Nat} {x : α} (hx : l.drop k = x :: l.drop (k + 1)) {r : Bool} (h : (l.drop k).any f = r) (hf : f x = false) : (l.drop (k + 1)).any f = r := by
 rw [hx, List.any_cons, hf, Bool.false_or] at h; exact h
set_option maxHeartbeats 16000000 in
theorem accepted_p (N : Int) (L : List (List Int)) (ns : List Nd) (cl : List Cl) (i : Int) (R : List (List Int)) (hp : Prf N L ns cl) (hi0 : 0 ≤ i) (hi1 : i < (ns.length : Int)) (hR : okRows R = true) (hz : checkT N R = 0) : FnPure Tryz.prog 25 [aPrf N L ns cl, .v (.int .i64 i), aTh N R] (.v (.bool (acptV N L ns cl i R))) := by
 obtain ⟨m, rfl⟩ := Int.eq_ofNat_of_zero_le hi0
 have hm : m < ns.length := by omega
 obtain ⟨o1, o2, o3, o4⟩ := okNs_at hp.hns hm
 have hix := prf_in hp hm
 have hNo := hp.hN
 have hpB := prfB_of hp
 have hsv : acptV N L ns cl (m : Int) R = (if (ns.getD m nd0).1 = 1 then decide (R = []) else if (ns.getD m nd0).1 = 0 then decide ([] ∈ R)
  else if (ns.getD m nd0).1 = 2 then decide (R.length = 1) && decide ([(ns.getD m nd0).2.1] ∈ R)
  else if (ns.getD m nd0).1 = 3 then fitV N L ns cl R (ns.getD m nd0).2.2
  else if (ns.getD m nd0).2.2.length ≠ 2 then false
  else (listS (varsT R)).any fun v => [v, -v].any fun l => sideV N L ns cl R ((ns.getD m nd0).2.2.getD 0 0) l && sideV N L ns cl R ((ns.getD m nd0).2.2.getD 1 0) (-l)) := rfl
 obtain ⟨K, hK⟩ : ∃ K, (ns.getD m nd0).1 = K := ⟨_, rfl⟩
 obtain ⟨j, hj⟩ : ∃ j, (ns.getD m nd0).2.1 = j := ⟨_, rfl⟩
 obtain ⟨is, his⟩ : ∃ is, (ns.getD m nd0).2.2 = is := ⟨_, rfl⟩
 rw [hK, hj, his] at hsv
 rw [hK] at o1
 rw [hj] at o2
 rw [his] at o3 o4 hix
 have HSV := Lib.hid hsv
 clear hsv hi0
 unfold aTh aPrf aNds
 refine fn_sp TT_ok Tryz.func25 (c := _) rfl (by simp [Tryz.ntmps25]) (fun B hI0 hro => ?_)
 rw [Tryz.ntmps25]
 simp only [enumA]
 refine amStr (h := ?_)
 refine amReg PT204_ok (h := ?_)
 refine amStr (h := ?_)
 refine amReg PT204_ok (h := ?_)
 refine amStr (h := ?_)
 refine amReg PT204_ok (h := ?_)
 refine amStr (h := ?_)
 refine s_weak (τ := ⟨92, [(0, aPrf N L ns cl), (5, .ptr 0 0 0), (7, .ptr 1 0 0), (6, .v (.bool false)), (21, .v (.int .i64 K))], [(0, ⟨24, 2, [[.v (.int .i64 N), aRows R]]⟩), (1, ⟨32, 3, [[.v (.int .i64 K), .v (.int .i64 j), aInts is]]⟩)], [1, 0]⟩) ?_ ?_
 ·(refine weak_of (fun q => if q = 1 then 9 else q) ⟨rfl, ?_, ?_, ?_⟩ <;> ((try simp only [List.mem_cons, List.not_mem_nil, or_false, forall_eq_or_imp, forall_eq]); (try simp (disch := omega) [lk, AV.ids, idsL, idsLL, AV.ren, renL, renLL, i64w, *])))
  all_goals exact ⟨(AV.ren_pure _ _ (prf_ids N L ns cl)).symm, fun k h => by rw [prf_ids] at h; cases h⟩
 clear hK hj his
 have hRn : ((R.length : Int) == 0) = decide (R = []) := by cases R <;> simp <;> omega
 have hR1 : ((R.length : Int) == 1) = decide (R.length = 1) := by rw [Bool.eq_iff_iff]; simp; omega
 have htn : toInts (.v (.slice none 0 0)) = some [] := rfl
 have hto : okInts [] = true := rfl
 by_cases hk1 : K = 1
 ·subst hk1
  have hF := HSV.out
  rw [if_pos rfl] at hF
  rw [hF]
  refine amStr (h := ?_)
  refine amReg PT204_ok (h := ?_)
  refine amStr (h := ?_)
  refine amReg PT204_ok (h := ?_)
  refine amStr (h := ?_)
  (refine amRt Tryz.results25 (h := ?_); try simp [*])
 have hF1 := HSV.out
 rw [if_neg hk1] at hF1
 have hkb1 : (K == 1) = false := by simpa using hk1
 by_cases hk0 : K = 0
 ·subst hk0
  rw [if_pos rfl] at hF1
  rw [hF1]
  refine amStr (h := ?_)
  refine amReg PT204_ok (h := ?_)
  refine amStr (h := ?_)
  refine amReg PT204_ok (h := ?_)
  refine amStr (h := ?_)
  refine amReg PT204_ok (h := ?_)
  refine amStr (h := ?_)
  (refine amRt Tryz.results25 (h := ?_); try simp [*])
 rw [if_neg hk0] at hF1
 have hkb0 : (K == 0) = false := by simpa using hk0
 by_cases hk2 : K = 2
 ·subst hk2
  rw [if_pos rfl] at hF1
  rw [hF1]
  have ht1 : toInts (.sl 1 [[.v (.int .i64 j)]]) = some [j] := rfl
  have ho1 : okInts [j] = true := by unfold okInts; simp [o2]
  cases hd1 : decide (R.length = 1)
  ·rw [hd1] at hR1
   refine amStr (h := ?_)
   refine amReg PT204_ok (h := ?_)
   refine amStr (h := ?_)
   refine amReg PT204_ok (h := ?_)
   refine amStr (h := ?_)
   refine amReg PT204_ok (h := ?_)
   refine amStr (h := ?_)
   refine amReg PT204_ok (h := ?_)
   refine amStr (h := ?_)
   (refine amRt Tryz.results25 (h := ?_); try simp [*])
  ·rw [hd1] at hR1
   rw [Bool.true_and]
   refine amStr (h := ?_)
   refine amReg PT204_ok (h := ?_)
   refine amStr (h := ?_)
   refine amReg PT204_ok (h := ?_)
   refine amStr (h := ?_)
   refine amReg PT204_ok (h := ?_)
   refine amStr (h := ?_)
   refine amReg PT204_ok (h := ?_)
   refine amStr (h := ?_)
   (refine amRt Tryz.results25 (h := ?_); try simp [*])
 rw [if_neg hk2] at hF1
 have hkb2 : (K == 2) = false := by simpa using hk2
 by_cases hk3 : K = 3
 ·subst hk3
  rw [if_pos rfl] at hF1
  rw [hF1]
  refine amStr (h := ?_)
  refine amReg PT204_ok (h := ?_)
  refine amStr (h := ?_)
  refine amReg PT204_ok (h := ?_)
  refine amStr (h := ?_)
  refine amReg PT204_ok (h := ?_)
  refine amStr (h := ?_)
  refine amReg PT204_ok (h := ?_)
  refine amStr (h := ?_)
  unfold aPrf
  refine amReg PT204_ok (h := ?_)
  refine amStr (h := ?_)
  (refine amRt Tryz.results25 (h := ?_); try simp [*])
 rw [if_neg hk3] at hF1
 have hkb3 : (K == 3) = false := by simpa using hk3
 have HF1 := Lib.hid hF1
 clear hF1 HSV
 refine amStr (h := ?_)
 refine amReg PT204_ok (h := ?_)
 refine amStr (h := ?_)
 refine amReg PT204_ok (h := ?_)
 refine amStr (h := ?_)
 refine amReg PT204_ok (h := ?_)
 refine amStr (h := ?_)
 refine amReg PT204_ok (h := ?_)
 refine amStr (h := ?_)
 refine amReg PT204_ok (h := ?_)
 by_cases hl2 : is.length = 2
 ·have hlb : ((is.length : Int) != 2) = false := by simp; omega
  have hF := HF1.out
  rw [if_neg (by omega)] at hF
  rw [hF]
  have hi0 := idxB_at hix (k := 0) (by omega)
  have hi1 := idxB_at hix (k := 1) (by omega)
  have hz0 : 0 < is.length := by omega
  have hz1 : 1 < is.length := by omega
  obtain ⟨x, hx⟩ : ∃ x, is.getD 0 0 = x := ⟨_, rfl⟩
  obtain ⟨y, hy⟩ : ∃ y, is.getD 1 0 = y := ⟨_, rfl⟩
  have hxo : okI x = true := hx ▸ okI_iff.2 (okInts_at o3 0)
  have hyo : okI y = true := hy ▸ okI_iff.2 (okInts_at o3 1)
  rw [hx] at hi0
  rw [hy] at hi1
  rw [hx, hy]
  obtain ⟨hx0, hx1⟩ := hi0
  obtain ⟨hy0, hy1⟩ := hi1
  have hvl := fun v => vars_lit (v := v) hz
  obtain ⟨V, hV⟩ : ∃ V, listS (varsT R) = V := ⟨_, rfl⟩
  rw [hV] at hvl ⊢
  have HVL := Lib.hid hvl
  clear hvl
  have hdec : (V.any fun v => [v, -v].any fun l => sideV N L ns cl R x l && sideV N L ns cl R y (-l)) = V.any fun v => [v, -v].any (decB N L ns cl R x y) := rfl
  rw [hdec]
  obtain ⟨res, hres⟩ : ∃ res, (V.any fun v => [v, -v].any (decB N L ns cl R x y)) = res := ⟨_, rfl⟩
  rw [hres]
  have hvo : varsOf N R = varsT R := by unfold varsOf; rw [if_pos hz]
  have hVl : V.length ≤ 128 := by rw [← hV, listS_eq]; exact Nat.le_trans (List.length_filter_le _ _) (by simp)
  clear hF hdec HF1
  refine amStr (h := ?_)
  refine amReg PT204_ok (h := ?_)
  refine amStr (h := ?_)
  refine s_loop (J := fun i : {k : Nat // k ≤ V.length ∧ Hid (((V.drop k).any fun v => [v, -v].any (decB N L ns cl R x y)) = res)} => ⟨92, [(0, aPrf N L ns cl), (5, .ptr 0 0 0), (7, .ptr 1 0 0), (6, .v (.bool false)), (58, aInts V), (59, .v (.int .i64 (V.length : Int))), (60, .v (.int .i64 (i.1 : Int)))], [(0, ⟨24, 2, [[.v (.int .i64 N), aRows R]]⟩), (1, ⟨32, 3, [[.v (.int .i64 K), .v (.int .i64 j), aInts is]]⟩)], [1, 0]⟩) (μ := fun i => V.length - i.1) ⟨0, Nat.zero_le _, Lib.hid (by rw [List.drop_zero]; exact hres)⟩ ?_ (fun ⟨k, hk, HK⟩ => ?_)
  ·(refine weak_id rfl ?_ ?_ <;> ((try simp only [List.mem_cons, List.not_mem_nil, or_false, forall_eq_or_imp, forall_eq]); (try simp (disch := omega) [i64w, *])))
   all_goals exact fun k h => by rw [prf_ids] at h; cases h
  try dsimp only at hk HK
  try dsimp only
  clear hvo hV
  refine amStr (h := ?_)
  refine amReg PT204_ok (h := ?_)
  refine amStr (h := ?_)
  (focus ((with_reducible refine sp_cond (b := ?_) ?_ (fun hc => ?_) (fun hc => ?_)); rotate_left; (focus (first | rfl | (simp [lk, AS.ev]; rfl))); all_goals (try simp at hc)))
  ·have hkk : k < V.length := by omega
   clear hc
   have hdk := drop_get hkk
   have hvm : V.getD k 0 ∈ V := getD_memI hkk
   obtain ⟨v, hv⟩ : ∃ v, V.getD k 0 = v := ⟨_, rfl⟩
   rw [hv] at hdk hvm
   obtain ⟨⟨hv1, hv2⟩, hlo1, hlo2⟩ := HVL.out v hvm
   have hov : okI v = true := okI_iff.2 ⟨by omega, by omega⟩
   have hov2 : okI (-v) = true := okI_iff.2 ⟨by omega, by omega⟩
   have hwn : IntKind.i64.wrap (-v) = -v := i64w (by omega) (by omega)
   have hwv : IntKind.i64.wrap v = v := i64w (by omega) (by omega)
   have hwk : IntKind.i64.wrap ((k : Int) + 1) = (k : Int) + 1 := i64w (by omega) (by omega)
   refine amStr (h := ?_)
   refine amReg PT204_ok (h := ?_)
   refine amStr (h := ?_)
   refine amReg PT204_ok (h := ?_)
   refine amStr (h := ?_)
   refine s_loop (J := fun i : {q : Nat // q ≤ 2 ∧ Hid ((([v, -v].drop q).any (decB N L ns cl R x y)) = [v, -v].any (decB N L ns cl R x y))} => ⟨92, [(0, aPrf N L ns cl), (5, .ptr 0 0 0), (7, .ptr 1 0 0), (6, .v (.bool false)), (58, aInts V), (59, .v (.int .i64 (V.length : Int))), (60, .v (.int .i64 (k : Int))), (67, .agg [.v (.int .i64 v), .v (.int .i64 (-v))]), (68, .v (.int .i64 (i.1 : Int)))], [(0, ⟨24, 2, [[.v (.int .i64 N), aRows R]]⟩), (1, ⟨32, 3, [[.v (.int .i64 K), .v (.int .i64 j), aInts is]]⟩)], [1, 0]⟩) (μ := fun i => 2 - i.1) ⟨0, Nat.zero_le _, Lib.hid rfl⟩ ?_ (fun ⟨q, hq, HQ⟩ => ?_)
   ·(refine weak_id rfl ?_ ?_ <;> ((try simp only [List.mem_cons, List.not_mem_nil, or_false, forall_eq_or_imp, forall_eq]); (try simp (disch := omega) [i64w, *])))
    all_goals exact fun k h => by rw [prf_ids] at h; cases h
   try dsimp only at hq HQ
   try dsimp only
   refine amStr (h := ?_)
   refine amReg PT204_ok (h := ?_)
   refine amStr (h := ?_)
   (focus ((with_reducible refine sp_cond (b := ?_) ?_ (fun hc => ?_) (fun hc => ?_)); rotate_left; (focus (first | rfl | (simp [lk, AS.ev]; rfl))); all_goals (try simp at hc)))
   ·rcases (by omega : q = 0 ∨ q = 1) with rfl | rfl
    ·skip
     have hdx : decB N L ns cl R x y (v) = (sideV N L ns cl R x (v) && sideV N L ns cl R y (-v)) := by unfold decB; rfl
     cases hs1 : sideV N L ns cl R x (v)
     ·have hfd : decB N L ns cl R x y (v) = false := by rw [hdx, hs1]; rfl
      clear hdx
      refine amStr (h := ?_)
      refine amReg PT204_ok (h := ?_)
      refine amStr (h := ?_)
      unfold aPrf
      refine amDrs PT204_ok (h := ?_)
      refine amStr (h := ?_)
      refine amReg PT204_ok (h := ?_)
      refine k_lp (⟨1, by omega, Lib.hid (by rw [← HQ.out]; simp [hfd])⟩ : {q : Nat // q ≤ 2 ∧ Hid ((([v, -v].drop q).any (decB N L ns cl R x y)) = [v, -v].any (decB N L ns cl R x y))}) (by first | omega | (dsimp only; omega)) ?_
      (refine weak_id rfl ?_ ?_ <;> ((try simp only [List.mem_cons, List.not_mem_nil, or_false, forall_eq_or_imp, forall_eq]); (try simp (disch := omega) [i64w, *])))
      all_goals first | exact ⟨rfl, fun k h => by rw [prf_ids] at h; cases h⟩ | exact fun k h => by rw [prf_ids] at h; cases h
     ·cases hs2 : sideV N L ns cl R y (-v)
      ·have hfd : decB N L ns cl R x y (v) = false := by rw [hdx, hs1, hs2]; rfl
       clear hdx
       refine amStr (h := ?_)
       refine amReg PT204_ok (h := ?_)
       refine amStr (h := ?_)
       unfold aPrf
       refine amDrs PT204_ok (h := ?_)
       refine amStr (h := ?_)
       refine amReg PT204_ok (h := ?_)
       refine k_lp (⟨1, by omega, Lib.hid (by rw [← HQ.out]; simp [hfd])⟩ : {q : Nat // q ≤ 2 ∧ Hid ((([v, -v].drop q).any (decB N L ns cl R x y)) = [v, -v].any (decB N L ns cl R x y))}) (by first | omega | (dsimp only; omega)) ?_
       (refine weak_id rfl ?_ ?_ <;> ((try simp only [List.mem_cons, List.not_mem_nil, or_false, forall_eq_or_imp, forall_eq]); (try simp (disch := omega) [i64w, *])))
       all_goals first | exact ⟨rfl, fun k h => by rw [prf_ids] at h; cases h⟩ | exact fun k h => by rw [prf_ids] at h; cases h
      ·have hfd : decB N L ns cl R x y (v) = true := by rw [hdx, hs1, hs2]; rfl
       have hT : res = true := hres ▸ List.any_eq_true.2 ⟨v, hvm, List.any_eq_true.2 ⟨v, by simp, hfd⟩⟩
       subst hT
       clear hdx
       refine amStr (h := ?_)
       refine amReg PT204_ok (h := ?_)
       refine amStr (h := ?_)
       unfold aPrf
       refine amDrs PT204_ok (h := ?_)
       refine amStr (h := ?_)
       refine amReg PT204_ok (h := ?_)
       refine amStr (h := ?_)
       (refine amRt Tryz.results25 (h := ?_); try simp [*])
    ·skip
     have hdx : decB N L ns cl R x y (-v) = (sideV N L ns cl R x (-v) && sideV N L ns cl R y (v)) := by unfold decB; rw [Int.neg_neg]
     cases hs1 : sideV N L ns cl R x (-v)
     ·have hfd : decB N L ns cl R x y (-v) = false := by rw [hdx, hs1]; rfl
      clear hdx
      refine amStr (h := ?_)
      refine amReg PT204_ok (h := ?_)
      refine amStr (h := ?_)
      unfold aPrf
      refine amDrs PT204_ok (h := ?_)
      refine amStr (h := ?_)
      refine amReg PT204_ok (h := ?_)
      refine k_lp (⟨2, by omega, Lib.hid (by rw [← HQ.out]; simp [hfd])⟩ : {q : Nat // q ≤ 2 ∧ Hid ((([v, -v].drop q).any (decB N L ns cl R x y)) = [v, -v].any (decB N L ns cl R x y))}) (by first | omega | (dsimp only; omega)) ?_
      (refine weak_id rfl ?_ ?_ <;> ((try simp only [List.mem_cons, List.not_mem_nil, or_false, forall_eq_or_imp, forall_eq]); (try simp (disch := omega) [i64w, *])))
      all_goals first | exact ⟨rfl, fun k h => by rw [prf_ids] at h; cases h⟩ | exact fun k h => by rw [prf_ids] at h; cases h
     ·cases hs2 : sideV N L ns cl R y (v)
      ·have hfd : decB N L ns cl R x y (-v) = false := by rw [hdx, hs1, hs2]; rfl
       clear hdx
       refine amStr (h := ?_)
       refine amReg PT204_ok (h := ?_)
       refine amStr (h := ?_)
       unfold aPrf
       refine amDrs PT204_ok (h := ?_)
       refine amStr (h := ?_)
       refine amReg PT204_ok (h := ?_)
       refine k_lp (⟨2, by omega, Lib.hid (by rw [← HQ.out]; simp [hfd])⟩ : {q : Nat // q ≤ 2 ∧ Hid ((([v, -v].drop q).any (decB N L ns cl R x y)) = [v, -v].any (decB N L ns cl R x y))}) (by first | omega | (dsimp only; omega)) ?_
       (refine weak_id rfl ?_ ?_ <;> ((try simp only [List.mem_cons, List.not_mem_nil, or_false, forall_eq_or_imp, forall_eq]); (try simp (disch := omega) [i64w, *])))
       all_goals first | exact ⟨rfl, fun k h => by rw [prf_ids] at h; cases h⟩ | exact fun k h => by rw [prf_ids] at h; cases h
      ·have hfd : decB N L ns cl R x y (-v) = true := by rw [hdx, hs1, hs2]; rfl
       have hT : res = true := hres ▸ List.any_eq_true.2 ⟨v, hvm, List.any_eq_true.2 ⟨-v, by simp, hfd⟩⟩
       subst hT
       clear hdx
       refine amStr (h := ?_)
       refine amReg PT204_ok (h := ?_)
       refine amStr (h := ?_)
       unfold aPrf
       refine amDrs PT204_ok (h := ?_)
       refine amStr (h := ?_)
       refine amReg PT204_ok (h := ?_)
       refine amStr (h := ?_)
       (refine amRt Tryz.results25 (h := ?_); try simp [*])
   ·obtain rfl : q = 2 := by omega
    have hall : [v, -v].any (decB N L ns cl R x y) = false := by rw [← HQ.out]; rfl
    refine amStr (h := ?_)
    refine amReg PT204_ok (h := ?_)
    refine k_lp (⟨k + 1, hkk, Lib.hid (any_step hdk HK.out hall)⟩ : {k : Nat // k ≤ V.length ∧ Hid (((V.drop k).any fun v => [v, -v].any (decB N L ns cl R x y)) = res)}) (by first | omega | (dsimp only; omega)) ?_
    (refine weak_id rfl ?_ ?_ <;> ((try simp only [List.mem_cons, List.not_mem_nil, or_false, forall_eq_or_imp, forall_eq]); (try simp (disch := omega) [i64w, *])))
    all_goals first | exact ⟨rfl, fun k h => by rw [prf_ids] at h; cases h⟩ | exact fun k h => by rw [prf_ids] at h; cases h
  ·have hT : res = false := by
    rw [← HK.out, List.drop_eq_nil_of_le (by omega)]; rfl
   subst hT
   refine amStr (h := ?_)
   refine amReg PT204_ok (h := ?_)
   refine amStr (h := ?_)
   (refine amRt Tryz.results25 (h := ?_); try simp [*])
 ·have hlb : ((is.length : Int) != 2) = true := by simp; omega
  have hF := HF1.out
  rw [if_pos hl2] at hF
  rw [hF]
  refine amStr (h := ?_)
  refine amReg PT204_ok (h := ?_)
  refine amStr (h := ?_)
  (refine amRt Tryz.results25 (h := ?_); try simp [*])
end Go.Proofs.YtllkogdgmmcfgaaGreatDoor
/- Vb23: The table with accepted; no condition. -/
namespace Go.Proofs.YtllkogdgmmcfgaaGreatDoor
set_option linter.unusedVariables false
set_option linter.unusedSimpArgs false
set_option linter.unusedSectionVars false
open Go.RowKit
set_option maxRecDepth 100000
@[simp] def g_vAcc : List AV → Option (AV × Bool)
 | [.pt [.v (.int .i64 N), a0, .v (.int .i64 N'), b0, c0], .v (.int .i64 j), .agg [.v (.int .i64 M), a2]] => (match toRows a0 with | some L => (match toNds b0 with | some ns => (match toCls c0 with | some cl => (match toRows a2 with | some R => if (decide (N' = N) && prfB N L ns cl && okI j && okI M && okRows R && (decide (M = N) && decide (checkT N R = 0) && decide (0 ≤ j) && decide (j < (ns.length : Int)))) = true then some (.v (.bool (acptV N L ns cl j R)), false) else none | none => none) | none => none) | none => none) | none => none)
 | _ => none
theorem e_vAcc : EntOk Tryz.prog 25 g_vAcc := ent_pure (by kernel_rfl) fun args r fr h => by
 unfold g_vAcc at h
 split at h
 ·rename_i N a0 N' b0 c0 j M a2
  split at h
  ·rename_i L t0
   split at h
   ·rename_i ns s0
    split at h
    ·rename_i cl w0
     split at h
     ·rename_i R t2
      split at h
      ·rename_i hc
       simp only [Bool.and_eq_true] at hc
       obtain ⟨⟨⟨⟨⟨e0, o0⟩, o1⟩, m2⟩, o2⟩, hk⟩ := hc
       cases h
       exact ⟨FnPure.cov (by have e1 : M = N := of_decide_eq_true hk.1.1.1; subst e1; exact accepted_p M L ns cl j R (prf_of o0) (of_decide_eq_true hk.1.2) (of_decide_eq_true hk.2) o2 (of_decide_eq_true hk.1.1.2)) (.cons (cov_prf2 e0 t0 s0 w0) (.cons (Cov.refl _) (.cons (cov_th _ (cov_rows t2)) .nil))), rfl⟩
      ·cases h
     ·cases h
    ·cases h
   ·cases h
  ·cases h
 ·cases h

def l205 : List (FuncId × (List AV → Option (AV × Bool))) :=
 (25, g_vAcc) :: l204
theorem l205_ok : ∀ p ∈ l205, EntOk Tryz.prog p.1 p.2 := ent_cons e_vAcc (l204_ok)
def PT205 : PTab := tab l205
theorem PT205_ok : PTok Tryz.prog PT205 := tab_ok l205_ok
@[simp] theorem PT205_vAcc : PT205 25 = g_vAcc := rfl
@[simp] theorem PT205_old (f : FuncId) (h : decide (f ≠ 25) = true) : PT205 f = PT204 f := tab_old (of_decide_eq_true h)
end Go.Proofs.YtllkogdgmmcfgaaGreatDoor
/- Vw23: What Verify computes, in plain words; no condition. -/
namespace Go.Proofs.YtllkogdgmmcfgaaGreatDoor
set_option linter.unusedVariables false
set_option linter.unusedSimpArgs false
set_option linter.unusedSectionVars false
open Go.RowKit
set_option maxRecDepth 100000
def kindQ (ns : List Nd) (q : Nat) : Int := (ns.getD q nd0).1
def inpB (ns : List Nd) (K : Int) (q : Nat) : Bool := ns.any fun x => decide (x.1 = K) && decide ((q : Int) ∈ x.2.2)
def nedB (ns : List Nd) (q : Nat) : Bool := decide (q = ns.length - 1) || (inpB ns 3 q && !decide (kindQ ns q = 2))
def knwB (ns : List Nd) (q : Nat) : Bool := decide (kindQ ns q = 2) || (inpB ns 4 q && decide (kindQ ns q = 3))
def badV (N : Int) (L : List (List Int)) (ns : List Nd) (cl : List Cl) (i : Nat) : Bool :=
 if nedB ns i = true then (match rsV L N (clN cl i) with
  | none => true
  | some r => !acptV N L ns cl i r || (decide (i = ns.length - 1) && !decide (r = normL L)))
 else !knwB ns i
def outV : Option Nat → Int × Int
 | some i => ((i : Int), 230)
 | none => (0, 0)
def verV (N : Int) (L : List (List Int)) (M : Int) (ns : List Nd) (cl : List Cl) : Int × Int :=
 if checkT N L = 0 ∧ validN M ns = true ∧ N = M ∧ cl.length = ns.length then outV ((List.range ns.length).find? (badV N L ns cl))
 else (0, 1)
/-! ### The first loop, half way -/
def nedI (ns : List Nd) (i k : Nat) (q : Nat) : Bool := decide (q = ns.length - 1) || ((inpB (ns.take i) 3 q || (decide ((ns.getD i nd0).1 = 3) && decide ((q : Int) ∈ (ns.getD i nd0).2.2.take k))) && !decide (kindQ ns q = 2))
def knwI (ns : List Nd) (i h k : Nat) (q : Nat) : Bool := (decide (q < h) && decide (kindQ ns q = 2)) || ((inpB (ns.take i) 4 q || (decide ((ns.getD i nd0).1 = 4) && decide ((q : Int) ∈ (ns.getD i nd0).2.2.take k))) && decide (kindQ ns q = 3))
def SayB (bs : List Bool) (n : Nat) (f : Nat → Bool) : Prop := bs.length = n ∧ ∀ q, q < n → bs.getD q false = f q
theorem SayB.set {bs : List Bool} {n : Nat} {f g : Nat → Bool} (h : SayB bs n f) {k : Nat} {b : Bool} (hk : k < n) (hb : b = g k) (hg : ∀ q, q < n → q ≠ k → g q = f q) : SayB (bs.set k b) n g := by
 refine ⟨by rw [List.length_set, h.1], fun q hq => ?_⟩
 rw [List.getD_eq_getElem?_getD, List.getElem?_set]
 by_cases e : k = q
 ·subst e
  rw [if_pos rfl, if_pos (by rw [h.1]; exact hk)]; exact hb
 ·rw [if_neg e, ← List.getD_eq_getElem?_getD, h.2 q hq, hg q hq (fun h2 => e h2.symm)]
theorem SayB.to {bs : List Bool} {n : Nat} {f g : Nat → Bool} (h : SayB bs n f) (hg : ∀ q, q < n → g q = f q) : SayB bs n g := ⟨h.1, fun q hq => (h.2 q hq).trans (hg q hq).symm⟩
theorem inp_take {ns : List Nd} {i : Nat} (hi : i < ns.length) (K : Int) (q : Nat) : inpB (ns.take (i + 1)) K q = (inpB (ns.take i) K q || (decide ((ns.getD i nd0).1 = K) && decide ((q : Int) ∈ (ns.getD i nd0).2.2))) := by
 unfold inpB
 have e : ns.take (i + 1) = ns.take i ++ [ns.getD i nd0] := by
  rw [List.take_add_one, List.getD_eq_getElem?_getD, List.getElem?_eq_getElem hi]; rfl
 rw [e, List.any_append, List.any_cons, List.any_nil, Bool.or_false]
theorem mem_take_succ {l : List Int} {k : Nat} (hk : k < l.length) (x : Int) : x ∈ l.take (k + 1) ↔ x ∈ l.take k ∨ x = l.getD k 0 := by
 rw [List.take_add_one, List.mem_append, List.getD_eq_getElem?_getD, List.getElem?_eq_getElem hk]
 simp
theorem ned_0 (ns : List Nd) (q : Nat) : nedI ns 0 0 q = decide (q = ns.length - 1) := by unfold nedI inpB; simp
theorem knw_0 (ns : List Nd) (q : Nat) : knwI ns 0 0 0 q = false := by unfold knwI inpB; simp
theorem ned_next {ns : List Nd} {i : Nat} (hi : i < ns.length) (q : Nat) : nedI ns (i + 1) 0 q = nedI ns i (ns.getD i nd0).2.2.length q := by
 unfold nedI
 rw [inp_take hi, List.take_length]; simp
theorem knw_next {ns : List Nd} {i : Nat} (hi : i < ns.length) (q : Nat) : knwI ns (i + 1) (i + 1) 0 q = knwI ns i (i + 1) (ns.getD i nd0).2.2.length q := by
 unfold knwI
 rw [inp_take hi, List.take_length]; simp
theorem ned_end (ns : List Nd) (q : Nat) : nedI ns ns.length 0 q = nedB ns q := by unfold nedI nedB; rw [List.take_length]; simp
theorem knw_end (ns : List Nd) {q : Nat} (hq : q < ns.length) : knwI ns ns.length ns.length 0 q = knwB ns q := by unfold knwI knwB; rw [List.take_length]; simp [hq]
theorem knw_node (ns : List Nd) (i q : Nat) (h : q ≠ i) : knwI ns i (i + 1) 0 q = knwI ns i i 0 q := by
 unfold knwI
 congr 2
 rw [decide_eq_decide]; omega
theorem knw_node2 (ns : List Nd) (i : Nat) : knwI ns i (i + 1) 0 i = (knwI ns i i 0 i || decide (kindQ ns i = 2)) := by
 unfold knwI
 simp only [Nat.lt_irrefl, decide_false, Bool.false_and, Bool.false_or, show i < i + 1 by omega, decide_true, Bool.true_and]
 rw [Bool.or_comm]
theorem ned_in {ns : List Nd} {i k : Nat} (hk : k < (ns.getD i nd0).2.2.length) (q : Nat) (h : (q : Int) ≠ (ns.getD i nd0).2.2.getD k 0) : nedI ns i (k + 1) q = nedI ns i k q := by
 unfold nedI
 have : decide ((q : Int) ∈ (ns.getD i nd0).2.2.take (k + 1)) = decide ((q : Int) ∈ (ns.getD i nd0).2.2.take k) := by
  rw [decide_eq_decide, mem_take_succ hk]; exact ⟨fun hh => hh.resolve_right h, Or.inl⟩
 rw [this]
theorem ned_in2 {ns : List Nd} {i k : Nat} (hk : k < (ns.getD i nd0).2.2.length) (q : Nat) (h : (q : Int) = (ns.getD i nd0).2.2.getD k 0) : nedI ns i (k + 1) q = (nedI ns i k q || (decide ((ns.getD i nd0).1 = 3) && !decide (kindQ ns q = 2))) := by
 unfold nedI
 have : decide ((q : Int) ∈ (ns.getD i nd0).2.2.take (k + 1)) = true := by
  rw [decide_eq_true_eq, mem_take_succ hk]; exact .inr h
 rw [this]
 generalize decide (q = ns.length - 1) = a
 generalize inpB (ns.take i) 3 q = b
 generalize decide ((ns.getD i nd0).1 = 3) = c
 generalize decide ((q : Int) ∈ (ns.getD i nd0).2.2.take k) = d
 generalize decide (kindQ ns q = 2) = e
 revert a b c d e; decide
theorem knw_in {ns : List Nd} {i h k : Nat} (hk : k < (ns.getD i nd0).2.2.length) (q : Nat) (hq : (q : Int) ≠ (ns.getD i nd0).2.2.getD k 0) : knwI ns i h (k + 1) q = knwI ns i h k q := by
 unfold knwI
 have : decide ((q : Int) ∈ (ns.getD i nd0).2.2.take (k + 1)) = decide ((q : Int) ∈ (ns.getD i nd0).2.2.take k) := by
  rw [decide_eq_decide, mem_take_succ hk]; exact ⟨fun hh => hh.resolve_right hq, Or.inl⟩
 rw [this]
theorem knw_in2 {ns : List Nd} {i h k : Nat} (hk : k < (ns.getD i nd0).2.2.length) (q : Nat) (hq : (q : Int) = (ns.getD i nd0).2.2.getD k 0) : knwI ns i h (k + 1) q = (knwI ns i h k q || (decide ((ns.getD i nd0).1 = 4) && decide (kindQ ns q = 3))) := by
 unfold knwI
 have : decide ((q : Int) ∈ (ns.getD i nd0).2.2.take (k + 1)) = true := by
  rw [decide_eq_true_eq, mem_take_succ hk]; exact .inr hq
 rw [this]
 generalize (decide (q < h) && decide (kindQ ns q = 2)) = a
 generalize inpB (ns.take i) 4 q = b
 generalize decide ((ns.getD i nd0).1 = 4) = c
 generalize decide ((q : Int) ∈ (ns.getD i nd0).2.2.take k) = d
 generalize decide (kindQ ns q = 3) = e
 revert a b c d e; decide
theorem bset {A : List Bool} {k : Nat} {b : Bool} (hk : k < A.length) : (A.map fun b => [AV.v (.bool b)]).set k (.v (.bool b) :: ((A.map fun b => [AV.v (.bool b)]).getD k []).tail) = (A.set k b).map fun b => [AV.v (.bool b)] := by
 rw [List.map_set]
 simp [List.getD, hk]
theorem bget {A : List Bool} {k : Nat} (hk : k < A.length) : (A.map fun b => [AV.v (.bool b)]).getD k [] = [.v (.bool (A.getD k false))] := by simp [List.getD, hk]
theorem bids (A : List Bool) : idsLL (A.map fun b => [AV.v (.bool b)]) = [] := by
 induction A with
 | nil => rfl
 | cons b A ih => simp [idsLL, idsL, AV.ids, ih]
/-! ### The second loop -/
theorem find_step {f : Nat → Bool} {n i : Nat} {r : Option Nat} (h : ((List.range n).drop i).find? f = r) (hi : i < n) : (f i = true → r = some i) ∧ (f i = false → ((List.range n).drop (i + 1)).find? f = r) := by
 have e : (List.range n).drop i = i :: (List.range n).drop (i + 1) := by
  rw [List.drop_eq_getElem_cons (by simpa using hi)]; simp
 rw [e, List.find?_cons] at h
 constructor
 ·intro h1; rw [h1] at h; exact h.symm
 ·intro h1; rw [h1] at h; exact h
end Go.Proofs.YtllkogdgmmcfgaaGreatDoor
/- Vv23: verify.Verify; no condition. -/
namespace Go.Proofs.YtllkogdgmmcfgaaGreatDoor
set_option linter.unusedVariables false
set_option linter.unusedSimpArgs false
set_option linter.unusedSectionVars false
open Go.RowKit
open Wlk
attribute [-simp] List.getD_eq_getElem?_getD
set_option maxRecDepth 100000
@[simp ↓ high] theorem d_shut1_aClsV (σ : AS) (D : Nat → Bool) (cl : List Cl) : σ.shut1 D (aCls cl) = some (aCls cl) := by
 show (if (aCls cl).ids = [] then some (aCls cl) else none) = _
 rw [if_pos (d_ids_aClsV cl)]
@[simp ↓ high] theorem d_shut2_aClsV (σ : AS) (D : Nat → Bool) (cl : List Cl) : σ.shut2 D (aCls cl) = some (aCls cl) := d_shut1_aClsV σ D cl
@[simp ↓ high] theorem d_shut1_aNdsV (σ : AS) (D : Nat → Bool) (ns : List Nd) : σ.shut1 D (aNds ns) = some (aNds ns) := by
 show (if (aNds ns).ids = [] then some (aNds ns) else none) = _
 rw [if_pos (d_ids_aNdsV ns)]
@[simp ↓ high] theorem d_shut2_aNdsV (σ : AS) (D : Nat → Bool) (ns : List Nd) : σ.shut2 D (aNds ns) = some (aNds ns) := d_shut1_aNdsV σ D ns
@[simp ↓ high] theorem d_flat_aClsV (cl : List Cl) : (aCls cl).flat = true := rfl
@[simp ↓ high] theorem d_cells_aClsV (cl : List Cl) : (aCls cl).cells = [aCls cl] := rfl
@[simp ↓ high] theorem d_cell_aClsV (cl : List Cl) : (aCls cl).cell = true := rfl
theorem read_ownPt {B : Base} {G : Gh} {σ : AS} {w : World} {a : Act} (hr : R B G σ w a) {k : Nat} {t : TypeId} {cs : List AV} (hk : lk σ.objs k = some ⟨t, cs.length, [cs]⟩) (hi : idsL cs = []) {v : Value} (hv : Rv G (.ptr k 0 0) v) : Rv (G0 (fun b p => w.cell? ⟨b, p, none⟩)) (.pt cs) v := by
 cases hv with
 | ptr _ _ _ b base cap sz hl =>
  have hcell : ∀ j, j < cs.length → ∃ u, w.cell? ⟨b, base + (0 * sz + 0) + j, none⟩ = some u ∧ u.oneCell' = true ∧ Rv G (cs.getD j .any) u := fun j hj => by
   obtain ⟨e, u, c1, _, c2, c3⟩ := hr.cellsOf hk hl (e := 0) (j := j) (by simp) hj
   refine ⟨u, ?_, c2, by simpa using c3⟩
   rw [show base + (0 * sz + 0) + j = base + (0 * cs.length + j) by simp]
   exact c1
  refine .pt cs b (base + (0 * sz + 0)) (fun j => (w.cell? ⟨b, base + (0 * sz + 0) + j, none⟩).getD undef) (fun j hj => ?_) (fun j hj => ?_) (fun j hj => ?_)
  ·obtain ⟨u, c1, _, _⟩ := hcell j hj
   show w.cell? _ = _
   rw [c1]; rfl
  ·obtain ⟨u, c1, c2, _⟩ := hcell j hj
   simp only [c1, Option.getD_some]; exact c2
  ·obtain ⟨u, c1, _, c3⟩ := hcell j hj
   simp only [c1, Option.getD_some]
   refine Rv.pure (fun b p u h => hr.heap.st b p u h) c3 ?_
   refine List.eq_nil_iff_forall_not_mem.2 fun q hq => ?_
   have := idsL_mem hj hq
   rw [hi] at this; cases this
theorem valid_lenV {N : Int} {ns : List Nd} (h : validN N ns = true) : 1 ≤ ns.length ∧ ns.length ≤ 65536 := by
 unfold validN at h
 simp only [Bool.and_eq_true, decide_eq_true_eq] at h
 exact ⟨h.1.1.2, h.1.2⟩
def aV (p : Int × Int) : AV := .tup [.v (.int .i64 p.1), .v (.int .i64 p.2)]
theorem sp_no (N : Int) (L : List (List Int)) (M : Int) (ns : List Nd) (cl : List Cl) (h : ¬ (checkT N L = 0 ∧ validN M ns = true ∧ N = M ∧ cl.length = ns.length)) : verV N L M ns cl = (0, 1) := by unfold verV; rw [if_neg h]
set_option maxHeartbeats 16000000 in
theorem verify_p (N : Int) (L : List (List Int)) (M : Int) (ns : List Nd) (cl : List Cl) (hN : okI N = true) (hL : okRows L = true) (hM : okI M = true) (hns : okNs ns = true) (hcl : okCl cl = true) : FnPure Tryz.prog 11 [aTh N L, aNet M ns, aCls cl] (aV (verV N L M ns cl)) := by
 have hLl := okRows_len hL
 have hNl := okNs_len hns
 have hCl := okCl_len hcl
 unfold aTh aNet aNds aCls
 refine fn_sp TT_ok Tryz.func11 (c := _) rfl (by simp [Tryz.ntmps11]) (fun B hI0 hro => ?_)
 rw [Tryz.ntmps11]
 simp only [enumA]
 refine amStr (h := ?_)
 refine amReg PT205_ok (h := ?_)
 refine amStr (h := ?_)
 by_cases hz : checkT N L = 0
 ·by_cases hv : validN M ns = true
  ·have hvE : errN M ns = 0 := by unfold errN; rw [if_pos hv]
   by_cases hNM : N = M
   ·subst hNM
    by_cases hlen : cl.length = ns.length
    ·have hp : Prf N L ns cl := ⟨hN, hL, hns, hcl, hz, hv, hlen⟩
     have hvv : verV N L N ns cl = outV ((List.range ns.length).find? (badV N L ns cl)) := by unfold verV; rw [if_pos ⟨hz, hv, rfl, hlen⟩]
     rw [hvv]
     obtain ⟨res, hres⟩ : ∃ res, (List.range ns.length).find? (badV N L ns cl) = res := ⟨_, rfl⟩
     rw [hres]
     obtain ⟨n1, n2⟩ := valid_lenV hv
     have hw1 : IntKind.i64.wrap ((ns.length : Int) - 1) = ((ns.length - 1 : Nat) : Int) := by rw [i64w (by omega) (by omega)]; omega
     have hlb : ((cl.length : Int) != (ns.length : Int)) = false := by simp; omega
     refine amReg PT205_ok (h := ?_)
     refine amStr (h := ?_)
     refine amReg PT205_ok (h := ?_)
     refine amStr (h := ?_)
     refine s_weak (τ := ⟨185, [(2, aCls cl), (3, .ptr 0 0 0), (4, .ptr 1 0 0), (6, .v (.int .i64 0)), (7, .v (.int .i64 0)), (8, .v (.int .i64 ((ns.length - 1 : Nat) : Int)))], [(0, ⟨24, 2, [[.v (.int .i64 N), aRows L]]⟩), (1, ⟨28, 2, [[.v (.int .i64 N), aNds ns]]⟩)], [1, 0]⟩) ?_ ?_
     ·(refine weak_id rfl ?_ ?_ <;> ((try simp only [List.mem_cons, List.not_mem_nil, or_false, forall_eq_or_imp, forall_eq]); (try simp (disch := omega) [i64w, *])))
      all_goals rfl
     have hnl : ((1 : Nat) : Int) * (ns.length : Int) ≤ 281474976710656 := by omega
     have hnl2 : (ns.length : Int) ≤ 281474976710656 := by omega
     have hnl3 : (ns.length : Int) ≤ 9223372036854775807 := by omega
     have hfk : (ns.map fun x => [AV.v (.int .i64 x.1), .v (.int .i64 x.2.1), aInts x.2.2]).length = ns.length := List.length_map ..
     unfold aNds
     refine amDrs PT205_ok (h := ?_)
     refine amStr (h := ?_)
     obtain ⟨A0, hA0⟩ : ∃ A0 : List Bool, List.replicate ns.length false = A0 := ⟨_, rfl⟩
     have hs0 : SayB A0 ns.length (fun _ => false) := hA0 ▸ ⟨List.length_replicate, fun q hq => by simp [List.getD, hq]⟩
     have hrep : List.replicate ns.length [AV.v (.bool false)] = A0.map fun b => [AV.v (.bool b)] := by rw [← hA0, List.map_replicate]
     clear hA0
     refine s_weak (τ := ⟨185, [(2, aCls cl), (3, .ptr 0 0 0), (4, .ptr 1 0 0), (6, .v (.int .i64 0)), (7, .v (.int .i64 0)), (8, .v (.int .i64 ((ns.length - 1 : Nat) : Int))), (9, .ref 5 0 ns.length), (10, .ref 9 0 ns.length)], [(0, ⟨24, 2, [[.v (.int .i64 N), aRows L]]⟩), (1, ⟨28, 2, [[.v (.int .i64 N), aNds ns]]⟩), (5, ⟨4, 1, A0.map fun b => [.v (.bool b)]⟩), (9, ⟨4, 1, A0.map fun b => [.v (.bool b)]⟩)], [9, 5, 1, 0]⟩) ?_ ?_
     ·(refine weak_id rfl ?_ ?_ <;> ((try simp only [List.mem_cons, List.not_mem_nil, or_false, forall_eq_or_imp, forall_eq]); (try simp (disch := omega) [i64w, *])))
      exact ⟨rfl, fun q h => by rw [bids] at h; cases h⟩
     clear hrep hfk hnl hnl2 hnl3
     have hA0l := hs0.1
     have hrt : ns.length - 1 < ns.length := by omega
     have hrti : ((ns.length - 1 : Nat) : Int) < (ns.length : Int) := by omega
     refine amStr (h := ?_)
     refine amReg PT205_ok (h := ?_)
     refine amStr (h := ?_)
     refine amReg PT205_ok (h := ?_)
     refine amStr (h := ?_)
     obtain ⟨A1, hA1⟩ : ∃ A1, A0.set (ns.length - 1) true = A1 := ⟨_, rfl⟩
     refine s_weak (τ := ⟨185, [(2, aCls cl), (3, .ptr 0 0 0), (4, .ptr 1 0 0), (6, .v (.int .i64 0)), (7, .v (.int .i64 0)), (8, .v (.int .i64 ((ns.length - 1 : Nat) : Int))), (9, .ref 5 0 ns.length), (10, .ref 9 0 ns.length), (61, aNds ns), (62, .v (.int .i64 (ns.length : Int))), (63, .v (.int .i64 0))], [(0, ⟨24, 2, [[.v (.int .i64 N), aRows L]]⟩), (1, ⟨28, 2, [[.v (.int .i64 N), aNds ns]]⟩), (5, ⟨4, 1, A1.map fun b => [.v (.bool b)]⟩), (9, ⟨4, 1, A0.map fun b => [.v (.bool b)]⟩)], [9, 5, 1, 0]⟩) ?_ ?_
     ·(refine weak_id rfl ?_ ?_ <;> ((try simp only [List.mem_cons, List.not_mem_nil, or_false, forall_eq_or_imp, forall_eq]); (try simp (disch := omega) [i64w, *])))
      all_goals ((repeat' refine And.intro ?_ ?_) <;> first | exact fun q h => (by rw [bids] at h; cases h) | (rw [← hA1]; exact bset (by omega)))
     have hs1 : SayB A1 ns.length (nedI ns 0 0) := hA1 ▸ hs0.set hrt (by rw [ned_0]; simp) fun q hq hne => by rw [ned_0]; simp [hne]
     have hs2 : SayB A0 ns.length (knwI ns 0 0 0) := hs0.to fun q hq => knw_0 ns q
     refine s_loop (J := fun i : {q : Nat × List Bool × List Bool // q.1 ≤ ns.length ∧ SayB q.2.1 ns.length (nedI ns q.1 0) ∧ SayB q.2.2 ns.length (knwI ns q.1 q.1 0)} => ⟨185, [(2, aCls cl), (3, .ptr 0 0 0), (4, .ptr 1 0 0), (6, .v (.int .i64 0)), (7, .v (.int .i64 0)), (8, .v (.int .i64 ((ns.length - 1 : Nat) : Int))), (9, .ref 5 0 ns.length), (10, .ref 9 0 ns.length), (61, aNds ns), (62, .v (.int .i64 (ns.length : Int))), (63, .v (.int .i64 (i.1.1 : Int)))], [(0, ⟨24, 2, [[.v (.int .i64 N), aRows L]]⟩), (1, ⟨28, 2, [[.v (.int .i64 N), aNds ns]]⟩), (5, ⟨4, 1, i.1.2.1.map fun b => [.v (.bool b)]⟩), (9, ⟨4, 1, i.1.2.2.map fun b => [.v (.bool b)]⟩)], [9, 5, 1, 0]⟩) (μ := fun i => ns.length - i.1.1) ⟨(0, _, _), Nat.zero_le _, hs1, hs2⟩ ?_ (fun ⟨⟨i, A, C⟩, hi, HA, HC⟩ => ?_)
     ·(refine weak_id rfl ?_ ?_ <;> ((try simp only [List.mem_cons, List.not_mem_nil, or_false, forall_eq_or_imp, forall_eq]); (try simp (disch := omega) [i64w, *])))
      all_goals ((repeat' refine And.intro ?_ ?_) <;> exact fun q h => (by rw [bids] at h; cases h))
     clear hs0 hs1 hs2 hA0l
     dsimp only at hi HA HC
     try dsimp only
     refine amStr (h := ?_)
     refine amReg PT205_ok (h := ?_)
     refine amStr (h := ?_)
     (focus ((with_reducible refine sp_cond (b := ?_) ?_ (fun hc => ?_) (fun hc => ?_)); rotate_left; (focus (first | rfl | (simp [lk, AS.ev]; rfl))); all_goals (try simp at hc)))
     ·have hii : i < ns.length := by omega
      clear hc
      have hAl := HA.1
      have hCl2 := HC.1
      have hiC : i < C.length := by omega
      obtain ⟨o1, o2, o3, o4⟩ := okNs_at hns hii
      have hix := prf_in hp hii
      have hkq : kindQ ns i = (ns.getD i nd0).1 := rfl
      have hne := @ned_next ns i hii
      have hkn := @knw_next ns i hii
      obtain ⟨K, hK⟩ : ∃ K, (ns.getD i nd0).1 = K := ⟨_, rfl⟩
      obtain ⟨l, hl⟩ : ∃ l, (ns.getD i nd0).2.1 = l := ⟨_, rfl⟩
      obtain ⟨is, his⟩ : ∃ is, (ns.getD i nd0).2.2 = is := ⟨_, rfl⟩
      rw [hK] at o1
      rw [hl] at o2
      rw [his] at o3 o4 hix
      obtain ⟨b, hb⟩ : ∃ b, C.getD i false = b := ⟨_, rfl⟩
      have hgb := bget hiC
      rw [hb] at hgb
      have HHK := Lib.hid hK
      have HHI := Lib.hid his
      have HNX := Lib.hid hne
      have HKX := Lib.hid hkn
      have HKQ := Lib.hid hkq
      clear hne hkn hkq
      refine amStr (h := ?_)
      unfold aNds
      refine amReg PT205_ok (h := ?_)
      refine amStr (h := ?_)
      have hk2 : (K == 2) = decide (K = 2) := by rw [Bool.eq_iff_iff]; simp
      refine sp_mono (Q' := fun e τ => e = .normal ∧ ∃ C2, SayB C2 ns.length (knwI ns i (i + 1) 0) ∧ Weak τ ⟨185, [(2, aCls cl), (3, .ptr 0 0 0), (4, .ptr 1 0 0), (6, .v (.int .i64 0)), (7, .v (.int .i64 0)), (8, .v (.int .i64 ((ns.length - 1 : Nat) : Int))), (9, .ref 5 0 ns.length), (10, .ref 9 0 ns.length), (61, aNds ns), (62, .v (.int .i64 (ns.length : Int))), (63, .v (.int .i64 (i : Int))), (11, .v (.int .i64 (i : Int))), (12, .ptr 13 0 0)], [(0, ⟨24, 2, [[.v (.int .i64 N), aRows L]]⟩), (1, ⟨28, 2, [[.v (.int .i64 N), aNds ns]]⟩), (5, ⟨4, 1, A.map fun b => [.v (.bool b)]⟩), (9, ⟨4, 1, C2.map fun b => [.v (.bool b)]⟩), (13, ⟨32, 3, [[.v (.int .i64 K), .v (.int .i64 l), aInts is]]⟩)], [13, 9, 5, 1, 0]⟩) ?_ ?_
      ·have hset : SayB (C.set i (b || decide (K = 2))) ns.length (knwI ns i (i + 1) 0) := HC.set hii (by rw [knw_node2, HKQ.out, hK, ← HC.2 i hii, hb]) fun q _ hq => knw_node ns i q hq
       cases b
       ·obtain ⟨C2, hC2⟩ : ∃ C2, C.set i (false || decide (K = 2)) = C2 := ⟨_, rfl⟩
        refine amReg PT205_ok (h := ?_)
        refine ⟨rfl, C2, hC2 ▸ hset, ?_⟩
        (refine weak_id rfl ?_ ?_ <;> ((try simp only [List.mem_cons, List.not_mem_nil, or_false, forall_eq_or_imp, forall_eq]); (try simp (disch := omega) [i64w, *])))
        all_goals ((repeat' refine And.intro ?_ ?_) <;> first | rfl | exact fun q h => (by rw [bids] at h; cases h) | (rw [← hC2, List.map_set]; rfl))
       ·obtain ⟨C2, hC2⟩ : ∃ C2, C.set i (true || decide (K = 2)) = C2 := ⟨_, rfl⟩
        refine amReg PT205_ok (h := ?_)
        refine ⟨rfl, C2, hC2 ▸ hset, ?_⟩
        (refine weak_id rfl ?_ ?_ <;> ((try simp only [List.mem_cons, List.not_mem_nil, or_false, forall_eq_or_imp, forall_eq]); (try simp (disch := omega) [i64w, *])))
        all_goals ((repeat' refine And.intro ?_ ?_) <;> first | rfl | exact fun q h => (by rw [bids] at h; cases h) | (rw [← hC2, List.map_set]; rfl))
      rintro e τ ⟨rfl, C2, HC2, hw⟩
      refine k_seq ?_
      refine s_weak _ hw ?_
      clear hw hgb hb
      refine amStr (h := ?_)
      refine amReg PT205_ok (h := ?_)
      refine amStr (h := ?_)
      refine s_loop (J := fun k : {q : Nat × List Bool × List Bool // q.1 ≤ is.length ∧ SayB q.2.1 ns.length (nedI ns i q.1) ∧ SayB q.2.2 ns.length (knwI ns i (i + 1) q.1)} => ⟨185, [(2, aCls cl), (3, .ptr 0 0 0), (4, .ptr 1 0 0), (6, .v (.int .i64 0)), (7, .v (.int .i64 0)), (8, .v (.int .i64 ((ns.length - 1 : Nat) : Int))), (9, .ref 5 0 ns.length), (10, .ref 9 0 ns.length), (61, aNds ns), (62, .v (.int .i64 (ns.length : Int))), (63, .v (.int .i64 (i : Int))), (11, .v (.int .i64 (i : Int))), (12, .ptr 13 0 0), (81, aInts is), (82, .v (.int .i64 (is.length : Int))), (83, .v (.int .i64 (k.1.1 : Int)))], [(0, ⟨24, 2, [[.v (.int .i64 N), aRows L]]⟩), (1, ⟨28, 2, [[.v (.int .i64 N), aNds ns]]⟩), (5, ⟨4, 1, k.1.2.1.map fun b => [.v (.bool b)]⟩), (9, ⟨4, 1, k.1.2.2.map fun b => [.v (.bool b)]⟩), (13, ⟨32, 3, [[.v (.int .i64 K), .v (.int .i64 l), aInts is]]⟩)], [13, 9, 5, 1, 0]⟩) (μ := fun k => is.length - k.1.1) ⟨(0, A, C2), Nat.zero_le _, HA, HC2⟩ ?_ (fun ⟨⟨k, A, C⟩, hk, HA, HC⟩ => ?_)
      ·(refine weak_id rfl ?_ ?_ <;> ((try simp only [List.mem_cons, List.not_mem_nil, or_false, forall_eq_or_imp, forall_eq]); (try simp (disch := omega) [i64w, *])))
       all_goals ((repeat' refine And.intro ?_ ?_) <;> exact fun q h => (by rw [bids] at h; cases h))
      clear HC2 hCl2 hAl hiC
      dsimp only at hk HA HC
      try dsimp only
      refine amStr (h := ?_)
      refine amReg PT205_ok (h := ?_)
      refine amStr (h := ?_)
      (focus ((with_reducible refine sp_cond (b := ?_) ?_ (fun hc => ?_) (fun hc => ?_)); rotate_left; (focus (first | rfl | (simp [lk, AS.ev]; rfl))); all_goals (try simp at hc)))
      ·have hkk : k < is.length := by omega
       clear hc
       have hAl := HA.1
       have hCl2 := HC.1
       obtain ⟨y0, y1⟩ := idxB_at hix hkk
       have hyo := okI_iff.2 (okInts_at o3 k)
       have hget := ints_getO hkk
       obtain ⟨y, hy⟩ : ∃ y, is.getD k 0 = y := ⟨_, rfl⟩
       rw [hy] at y0 y1 hyo hget
       obtain ⟨m, rfl⟩ := Int.eq_ofNat_of_zero_le y0
       have hm : m < ns.length := by omega
       have hmA : m < A.length := by omega
       have hmC : m < C.length := by omega
       obtain ⟨q1, q2, q3, q4⟩ := okNs_at hns hm
       have hwk : IntKind.i64.wrap ((k : Int) + 1) = (k : Int) + 1 := i64w (by omega) (by omega)
       have hyk : (m : Int) = (ns.getD i nd0).2.2.getD k 0 := by rw [HHI.out, hy]
       have hkl : k < (ns.getD i nd0).2.2.length := by rw [HHI.out]; exact hkk
       have hAn : SayB (A.set m (A.getD m false || (decide (K = 3) && !decide (kindQ ns m = 2)))) ns.length (nedI ns i (k + 1)) := HA.set hm (by rw [ned_in2 hkl m hyk, HHK.out, ← HA.2 m hm]) fun q _ hq => ned_in hkl q (by rw [← hyk]; omega)
       have hCn : SayB (C.set m (C.getD m false || (decide (K = 4) && decide (kindQ ns m = 3)))) ns.length (knwI ns i (i + 1) (k + 1)) := HC.set hm (by rw [knw_in2 hkl m hyk, HHK.out, ← HC.2 m hm]) fun q _ hq => knw_in hkl q (by rw [← hyk]; omega)
       have hkm : kindQ ns m = (ns.getD m nd0).1 := rfl
       obtain ⟨K2, hK2⟩ : ∃ K2, (ns.getD m nd0).1 = K2 := ⟨_, rfl⟩
       rw [hkm, hK2] at hAn hCn
       have HAN := Lib.hid hAn
       have HCN := Lib.hid hCn
       clear hAn hCn hkm hyk hkl
       obtain ⟨b1, hb1⟩ : ∃ b, A.getD m false = b := ⟨_, rfl⟩
       obtain ⟨b2, hb2⟩ : ∃ b, C.getD m false = b := ⟨_, rfl⟩
       have hg1 := bget hmA
       have hg2 := bget hmC
       rw [hb1] at hg1
       rw [hb2] at hg2
       have HB1 := Lib.hid hb1
       have HB2 := Lib.hid hb2
       clear hb1 hb2
       refine amStr (h := ?_)
       refine amReg PT205_ok (h := ?_)
       refine amStr (h := ?_)
       unfold aNds
       refine amReg PT205_ok (h := ?_)
       refine amStr (h := ?_)
       have hn2 : (K2 != 2) = !decide (K2 = 2) := by rw [Bool.eq_iff_iff]; simp
       have hn3 : (K2 == 3) = decide (K2 = 3) := by rw [Bool.eq_iff_iff]; simp
       refine sp_mono (Q' := fun e τ => e = .normal ∧ ∃ A2, SayB A2 ns.length (nedI ns i (k + 1)) ∧ Weak τ ⟨185, [(2, aCls cl), (3, .ptr 0 0 0), (4, .ptr 1 0 0), (6, .v (.int .i64 0)), (7, .v (.int .i64 0)), (8, .v (.int .i64 ((ns.length - 1 : Nat) : Int))), (9, .ref 5 0 ns.length), (10, .ref 9 0 ns.length), (61, aNds ns), (62, .v (.int .i64 (ns.length : Int))), (63, .v (.int .i64 (i : Int))), (11, .v (.int .i64 (i : Int))), (12, .ptr 13 0 0), (81, aInts is), (82, .v (.int .i64 (is.length : Int))), (83, .v (.int .i64 (k : Int))), (14, .v (.int .i64 (m : Int))), (15, .ptr 19 0 0)], [(0, ⟨24, 2, [[.v (.int .i64 N), aRows L]]⟩), (1, ⟨28, 2, [[.v (.int .i64 N), aNds ns]]⟩), (5, ⟨4, 1, A2.map fun b => [.v (.bool b)]⟩), (9, ⟨4, 1, C.map fun b => [.v (.bool b)]⟩), (13, ⟨32, 3, [[.v (.int .i64 K), .v (.int .i64 l), aInts is]]⟩), (19, ⟨32, 3, [[.v (.int .i64 K2), .v (.int .i64 (ns.getD m nd0).2.1), aInts (ns.getD m nd0).2.2]]⟩)], [19, 13, 9, 5, 1, 0]⟩) ?_ ?_
       ·cases b1
        ·by_cases hkc : K = 3
         ·have hkb : (K == 3) = true := by simpa using hkc
          have hset := HAN.out
          rw [HB1.out, decide_eq_true hkc] at hset
          obtain ⟨D, hD⟩ : ∃ D, A.set m (false || (true && !decide (K2 = 2))) = D := ⟨_, rfl⟩
          rw [hD] at hset
          refine amReg PT205_ok (h := ?_)
          refine ⟨rfl, D, hset, ?_⟩
          (refine weak_id rfl ?_ ?_ <;> ((try simp only [List.mem_cons, List.not_mem_nil, or_false, forall_eq_or_imp, forall_eq]); (try simp (disch := omega) [i64w, *])))
          all_goals ((repeat' refine And.intro ?_ ?_) <;> first | rfl | exact fun q h => (by rw [bids] at h; cases h) | (rw [← hD, List.map_set]; rfl))
         ·have hkb : (K == 3) = false := by simpa using hkc
          have hset := HAN.out
          rw [HB1.out, decide_eq_false hkc] at hset
          obtain ⟨D, hD⟩ : ∃ D, A.set m (false || (false && !decide (K2 = 2))) = D := ⟨_, rfl⟩
          rw [hD] at hset
          refine amReg PT205_ok (h := ?_)
          refine ⟨rfl, D, hset, ?_⟩
          (refine weak_id rfl ?_ ?_ <;> ((try simp only [List.mem_cons, List.not_mem_nil, or_false, forall_eq_or_imp, forall_eq]); (try simp (disch := omega) [i64w, *])))
          all_goals ((repeat' refine And.intro ?_ ?_) <;> first | rfl | exact fun q h => (by rw [bids] at h; cases h) | (rw [← hD, List.map_set]; rfl))
        ·skip
         have hset := HAN.out
         rw [HB1.out] at hset
         obtain ⟨D, hD⟩ : ∃ D, A.set m (true || (decide (K = 3) && !decide (K2 = 2))) = D := ⟨_, rfl⟩
         rw [hD] at hset
         refine amReg PT205_ok (h := ?_)
         refine ⟨rfl, D, hset, ?_⟩
         (refine weak_id rfl ?_ ?_ <;> ((try simp only [List.mem_cons, List.not_mem_nil, or_false, forall_eq_or_imp, forall_eq]); (try simp (disch := omega) [i64w, *])))
         all_goals ((repeat' refine And.intro ?_ ?_) <;> first | rfl | exact fun q h => (by rw [bids] at h; cases h) | (rw [← hD, List.map_set]; rfl))
       rintro e τ ⟨rfl, A2, HA2, hw⟩
       refine k_seq ?_
       refine s_weak _ hw ?_
       have hAl2 := HA2.1
       clear hw
       refine sp_mono (Q' := fun e τ => e = .normal ∧ ∃ C3, SayB C3 ns.length (knwI ns i (i + 1) (k + 1)) ∧ Weak τ ⟨185, [(2, aCls cl), (3, .ptr 0 0 0), (4, .ptr 1 0 0), (6, .v (.int .i64 0)), (7, .v (.int .i64 0)), (8, .v (.int .i64 ((ns.length - 1 : Nat) : Int))), (9, .ref 5 0 ns.length), (10, .ref 9 0 ns.length), (61, aNds ns), (62, .v (.int .i64 (ns.length : Int))), (63, .v (.int .i64 (i : Int))), (11, .v (.int .i64 (i : Int))), (12, .ptr 13 0 0), (81, aInts is), (82, .v (.int .i64 (is.length : Int))), (83, .v (.int .i64 (k : Int))), (14, .v (.int .i64 (m : Int))), (15, .ptr 19 0 0)], [(0, ⟨24, 2, [[.v (.int .i64 N), aRows L]]⟩), (1, ⟨28, 2, [[.v (.int .i64 N), aNds ns]]⟩), (5, ⟨4, 1, A2.map fun b => [.v (.bool b)]⟩), (9, ⟨4, 1, C3.map fun b => [.v (.bool b)]⟩), (13, ⟨32, 3, [[.v (.int .i64 K), .v (.int .i64 l), aInts is]]⟩), (19, ⟨32, 3, [[.v (.int .i64 K2), .v (.int .i64 (ns.getD m nd0).2.1), aInts (ns.getD m nd0).2.2]]⟩)], [19, 13, 9, 5, 1, 0]⟩) ?_ ?_
       ·cases b2
        ·by_cases hkc : K = 4
         ·have hkb : (K == 4) = true := by simpa using hkc
          have hset := HCN.out
          rw [HB2.out, decide_eq_true hkc] at hset
          obtain ⟨D, hD⟩ : ∃ D, C.set m (false || (true && decide (K2 = 3))) = D := ⟨_, rfl⟩
          rw [hD] at hset
          refine amReg PT205_ok (h := ?_)
          refine ⟨rfl, D, hset, ?_⟩
          (refine weak_id rfl ?_ ?_ <;> ((try simp only [List.mem_cons, List.not_mem_nil, or_false, forall_eq_or_imp, forall_eq]); (try simp (disch := omega) [i64w, *])))
          all_goals ((repeat' refine And.intro ?_ ?_) <;> first | rfl | exact fun q h => (by rw [bids] at h; cases h) | (rw [← hD, List.map_set]; rfl))
         ·have hkb : (K == 4) = false := by simpa using hkc
          have hset := HCN.out
          rw [HB2.out, decide_eq_false hkc] at hset
          obtain ⟨D, hD⟩ : ∃ D, C.set m (false || (false && decide (K2 = 3))) = D := ⟨_, rfl⟩
          rw [hD] at hset
          refine amReg PT205_ok (h := ?_)
          refine ⟨rfl, D, hset, ?_⟩
          (refine weak_id rfl ?_ ?_ <;> ((try simp only [List.mem_cons, List.not_mem_nil, or_false, forall_eq_or_imp, forall_eq]); (try simp (disch := omega) [i64w, *])))
          all_goals ((repeat' refine And.intro ?_ ?_) <;> first | rfl | exact fun q h => (by rw [bids] at h; cases h) | (rw [← hD, List.map_set]; rfl))
        ·skip
         have hset := HCN.out
         rw [HB2.out] at hset
         obtain ⟨D, hD⟩ : ∃ D, C.set m (true || (decide (K = 4) && decide (K2 = 3))) = D := ⟨_, rfl⟩
         rw [hD] at hset
         refine amReg PT205_ok (h := ?_)
         refine ⟨rfl, D, hset, ?_⟩
         (refine weak_id rfl ?_ ?_ <;> ((try simp only [List.mem_cons, List.not_mem_nil, or_false, forall_eq_or_imp, forall_eq]); (try simp (disch := omega) [i64w, *])))
         all_goals ((repeat' refine And.intro ?_ ?_) <;> first | rfl | exact fun q h => (by rw [bids] at h; cases h) | (rw [← hD, List.map_set]; rfl))
       rintro e τ ⟨rfl, C3, HC3, hw⟩
       refine k_blk ?_
       refine k_seq ?_
       refine s_weak _ hw ?_
       clear hw
       refine amReg PT205_ok (h := ?_)
       refine k_lp (⟨(k + 1, A2, C3), hkk, HA2, HC3⟩ : {q : Nat × List Bool × List Bool // q.1 ≤ is.length ∧ SayB q.2.1 ns.length (nedI ns i q.1) ∧ SayB q.2.2 ns.length (knwI ns i (i + 1) q.1)}) (by first | omega | (dsimp only; omega)) ?_
       (refine weak_id rfl ?_ ?_ <;> ((try simp only [List.mem_cons, List.not_mem_nil, or_false, forall_eq_or_imp, forall_eq]); (try simp (disch := omega) [i64w, *])))
       all_goals ((repeat' refine And.intro ?_ ?_) <;> first | rfl | exact fun q h => (by rw [bids] at h; cases h))
      ·obtain rfl : k = is.length := by omega
       have HA2 : SayB A ns.length (nedI ns (i + 1) 0) := HA.to fun q _ => by rw [HNX.out, HHI.out]
       have HC2 : SayB C ns.length (knwI ns (i + 1) (i + 1) 0) := HC.to fun q _ => by rw [HKX.out, HHI.out]
       have hwi : IntKind.i64.wrap ((i : Int) + 1) = (i : Int) + 1 := i64w (by omega) (by omega)
       refine amStr (h := ?_)
       refine amReg PT205_ok (h := ?_)
       refine k_lp (⟨(i + 1, A, C), hii, HA2, HC2⟩ : {q : Nat × List Bool × List Bool // q.1 ≤ ns.length ∧ SayB q.2.1 ns.length (nedI ns q.1 0) ∧ SayB q.2.2 ns.length (knwI ns q.1 q.1 0)}) (by first | omega | (dsimp only; omega)) ?_
       (refine weak_id rfl ?_ ?_ <;> ((try simp only [List.mem_cons, List.not_mem_nil, or_false, forall_eq_or_imp, forall_eq]); (try simp (disch := omega) [i64w, *])))
       all_goals ((repeat' refine And.intro ?_ ?_) <;> first | rfl | exact fun q h => (by rw [bids] at h; cases h))
     ·obtain rfl : i = ns.length := by omega
      have HA2 : SayB A ns.length (nedB ns) := HA.to fun q _ => (ned_end ns q).symm
      have HC2 : SayB C ns.length (knwB ns) := HC.to fun q hq => (knw_end ns hq).symm
      have hAl := HA.1
      have hCl2 := HC.1
      have hAt : (A.map fun b => [AV.v (.bool b)]).take ns.length = A.map fun b => [AV.v (.bool b)] := List.take_of_length_le (by simp; omega)
      have hCt : (C.map fun b => [AV.v (.bool b)]).take ns.length = C.map fun b => [AV.v (.bool b)] := List.take_of_length_le (by simp; omega)
      have hAi := bids A
      have hCi := bids C
      refine amStr (h := ?_)
      refine s_frz (fun q => q == 5 || q == 9) ?_
      (refine s_eq (τ := ?_) ?_ ?_; rotate_left; (focus ((try simp only [AS.frz, List.map_cons, List.map_nil]); (try simp [frzV, frzO, frzC, List.filter]); rfl)))
      have hzA : (if ns.length ≤ A.length ∧ idsLL (List.take ns.length (List.map (fun b => [AV.v (Value.bool b)]) A)) = [] then some (AV.sl 1 (List.take ns.length (List.map (fun b => [AV.v (Value.bool b)]) A))) else none).getD (AV.ref 5 0 ns.length) = .sl 1 (A.map fun b => [AV.v (.bool b)]) := by rw [hAt, if_pos ⟨by omega, hAi⟩]; rfl
      have hzC : (if ns.length ≤ C.length ∧ idsLL (List.take ns.length (List.map (fun b => [AV.v (Value.bool b)]) C)) = [] then some (AV.sl 1 (List.take ns.length (List.map (fun b => [AV.v (Value.bool b)]) C))) else none).getD (AV.ref 9 0 ns.length) = .sl 1 (C.map fun b => [AV.v (.bool b)]) := by rw [hCt, if_pos ⟨by omega, hCi⟩]; rfl
      rw [hzA, hzC]
      clear hzA hzC hAt hCt
      refine s_weak (τ := ⟨185, [(2, aCls cl), (3, .ptr 0 0 0), (4, .ptr 1 0 0), (6, .v (.int .i64 0)), (7, .v (.int .i64 0)), (8, .v (.int .i64 ((ns.length - 1 : Nat) : Int))), (9, .sl 1 (A.map fun b => [AV.v (.bool b)])), (10, .sl 1 (C.map fun b => [AV.v (.bool b)]))], [(0, ⟨24, 2, [[.v (.int .i64 N), aRows L]]⟩), (1, ⟨28, 2, [[.v (.int .i64 N), aNds ns]]⟩)], [1, 0]⟩) ?_ ?_
      ·(refine weak_id rfl ?_ ?_ <;> ((try simp only [List.mem_cons, List.not_mem_nil, or_false, forall_eq_or_imp, forall_eq]); (try simp (disch := omega) [i64w, *])))
      refine amStr (h := ?_)
      refine amReg PT205_ok (h := ?_)
      refine amStr (h := ?_)
      refine s_weak (τ := ⟨185, [(2, aCls cl), (3, .ptr 0 0 0), (4, .ptr 1 0 0), (6, .v (.int .i64 0)), (7, .v (.int .i64 0)), (8, .v (.int .i64 ((ns.length - 1 : Nat) : Int))), (9, .sl 1 (A.map fun b => [AV.v (.bool b)])), (10, .sl 1 (C.map fun b => [AV.v (.bool b)])), (16, .ptr 6 0 0)], [(0, ⟨24, 2, [[.v (.int .i64 N), aRows L]]⟩), (1, ⟨28, 2, [[.v (.int .i64 N), aNds ns]]⟩), (6, ⟨60, 5, [[.v (.int .i64 N), aRows L, .v (.int .i64 N), aNds ns, aCls cl]]⟩)], [6, 1, 0]⟩) ?_ ?_
      ·(refine weak_id rfl ?_ ?_ <;> ((try simp only [List.mem_cons, List.not_mem_nil, or_false, forall_eq_or_imp, forall_eq]); (try simp (disch := omega) [i64w, *])))
      refine amStr (h := ?_)
      refine amReg PT205_ok (h := ?_)
      refine amStr (h := ?_)
      refine s_loop (J := fun i : {q : Nat // q ≤ ns.length ∧ Hid (((List.range ns.length).drop q).find? (badV N L ns cl) = res)} => ⟨185, [(2, aCls cl), (3, .ptr 0 0 0), (4, .ptr 1 0 0), (6, .v (.int .i64 0)), (7, .v (.int .i64 0)), (8, .v (.int .i64 ((ns.length - 1 : Nat) : Int))), (9, .sl 1 (A.map fun b => [AV.v (.bool b)])), (10, .sl 1 (C.map fun b => [AV.v (.bool b)])), (16, .ptr 6 0 0), (135, .v (.int .i64 (ns.length : Int))), (136, .v (.int .i64 (i.1 : Int)))], [(0, ⟨24, 2, [[.v (.int .i64 N), aRows L]]⟩), (1, ⟨28, 2, [[.v (.int .i64 N), aNds ns]]⟩), (6, ⟨60, 5, [[.v (.int .i64 N), aRows L, .v (.int .i64 N), aNds ns, aCls cl]]⟩)], [6, 1, 0]⟩) (μ := fun i => ns.length - i.1) ⟨0, Nat.zero_le _, Lib.hid (by rw [List.drop_zero]; exact hres)⟩ ?_ (fun ⟨i, hi2, HR⟩ => ?_)
      ·(refine weak_id rfl ?_ ?_ <;> ((try simp only [List.mem_cons, List.not_mem_nil, or_false, forall_eq_or_imp, forall_eq]); (try simp (disch := omega) [i64w, *])))
      clear hi HA HC
      try dsimp only at hi2 HR
      try dsimp only
      refine amStr (h := ?_)
      refine amReg PT205_ok (h := ?_)
      refine amStr (h := ?_)
      (focus ((with_reducible refine sp_cond (b := ?_) ?_ (fun hc => ?_) (fun hc => ?_)); rotate_left; (focus (first | rfl | (simp [lk, AS.ev]; rfl))); all_goals (try simp at hc)))
      ·have hii : i < ns.length := by omega
       clear hc
       obtain ⟨HF1, HF2⟩ := find_step HR.out hii
       have hiA : i < A.length := by omega
       have hiC : i < C.length := by omega
       have hgA := bget hiA
       have hgC := bget hiC
       rw [HA2.2 i hii] at hgA
       rw [HC2.2 i hii] at hgC
       have hbad : badV N L ns cl i = (if nedB ns i = true then (match rsV L N (clN cl (i : Int)) with
        | none => true
        | some r => !acptV N L ns cl (i : Int) r || (decide (i = ns.length - 1) && !decide (r = normL L))) else !knwB ns i) := rfl
       have HBD := Lib.hid hbad
       have HG1 := Lib.hid HF1
       have HG2 := Lib.hid HF2
       clear HF1 HF2 hbad
       have hwi : IntKind.i64.wrap ((i : Int) + 1) = (i : Int) + 1 := i64w (by omega) (by omega)
       refine amStr (h := ?_)
       refine amReg PT205_ok (h := ?_)
       refine amStr (h := ?_)
       obtain ⟨bn, hbn⟩ : ∃ b, nedB ns i = b := ⟨_, rfl⟩
       obtain ⟨bk, hbk⟩ : ∃ b, knwB ns i = b := ⟨_, rfl⟩
       rw [hbn] at hgA
       rw [hbk] at hgC
       have HBN := Lib.hid hbn
       have HBK := Lib.hid hbk
       clear hbn hbk
       cases bn
       ·cases bk
        ·have hb1 : badV N L ns cl i = true := by rw [HBD.out, if_neg (by rw [HBN.out]; decide), HBK.out]; rfl
         obtain rfl := HG1.out hb1
         refine amStr (h := ?_)
         refine amReg PT205_ok (h := ?_)
         refine amStr (h := ?_)
         refine amReg PT205_ok (h := ?_)
         refine amStr (h := ?_)
         refine amReg PT205_ok (h := ?_)
         refine amStr (h := ?_)
         (refine amRt Tryz.results11 (h := ?_); try simp [*])
         rfl
        ·have hb1 : badV N L ns cl i = false := by rw [HBD.out, if_neg (by rw [HBN.out]; decide), HBK.out]; rfl
         have HR2 := Lib.hid (HG2.out hb1)
         clear hb1
         refine amStr (h := ?_)
         refine amReg PT205_ok (h := ?_)
         refine amStr (h := ?_)
         refine amReg PT205_ok (h := ?_)
         refine amStr (h := ?_)
         refine amReg PT205_ok (h := ?_)
         refine k_lp (⟨i + 1, hii, HR2⟩ : {q : Nat // q ≤ ns.length ∧ Hid (((List.range ns.length).drop q).find? (badV N L ns cl) = res)}) (by first | omega | (dsimp only; omega)) ?_
         (refine weak_id rfl ?_ ?_ <;> ((try simp only [List.mem_cons, List.not_mem_nil, or_false, forall_eq_or_imp, forall_eq]); (try simp (disch := omega) [i64w, *])))
       ·have hmc : i < cl.length := by omega
        obtain ⟨c1, c2⟩ := okCl_at hcl (cl_mem hmc)
        have hget := cls_get hmc
        have hcn : clN cl (i : Int) = cl.getD i ([], []) := rfl
        obtain ⟨ts, hts⟩ : ∃ ts, (cl.getD i ([], [])).1 = ts := ⟨_, rfl⟩
        obtain ⟨cs, hcs⟩ : ∃ cs, (cl.getD i ([], [])).2 = cs := ⟨_, rfl⟩
        rw [hts] at c1
        rw [hcs] at c2
        rw [hts, hcs] at hget
        have hbd := HBD.out
        rw [if_pos HBN.out, hcn] at hbd
        unfold rsV at hbd
        rw [hts, hcs] at hbd
        have HBD2 := Lib.hid hbd
        have hmci : (i : Int) < (cl.length : Int) := by omega
        clear hbd hcn hts hcs
        cases hg : goodB N L.length ts cs
        ·have hA : resA N L ts cs = .tup [.agg [.v (.int .i64 0), .v (.slice none 0 0)], .v (.int .i64 1)] := by unfold resA; rw [if_neg (by rw [hg]; simp)]
         have hb1 : badV N L ns cl i = true := by rw [HBD2.out, if_neg (by rw [hg]; decide)]
         obtain rfl := HG1.out hb1
         refine amStr (h := ?_)
         refine amReg PT205_ok (h := ?_)
         refine amStr (h := ?_)
         unfold aCls
         refine amDrs PT205_ok (h := ?_)
         refine amStr (h := ?_)
         refine amReg PT205_ok (h := ?_)
         refine amStr (h := ?_)
         refine amReg PT205_ok (h := ?_)
         refine amStr (h := ?_)
         (refine amRt Tryz.results11 (h := ?_); try simp [*])
         rfl
        ·have hA : resA N L ts cs = .tup [.agg [.v (.int .i64 N), aRows (rsdL L ts cs)], .v (.int .i64 0)] := by unfold resA; rw [if_pos ⟨hz, hg⟩]; rfl
         have hxc := res_check hz hg
         have hxo := okRows_check hxc
         have hbd := HBD2.out
         rw [if_pos hg] at hbd
         simp only at hbd
         have HBD3 := Lib.hid hbd
         clear HBD2 hbd
         generalize rsdL L ts cs = X at hA hxc hxo HBD3
         refine amStr (h := ?_)
         refine amReg PT205_ok (h := ?_)
         refine amStr (h := ?_)
         unfold aCls
         refine amDrs PT205_ok (h := ?_)
         refine amStr (h := ?_)
         refine s_weak (τ := ⟨185, [(2, aCls cl), (3, .ptr 0 0 0), (4, .ptr 1 0 0), (6, .v (.int .i64 0)), (7, .v (.int .i64 0)), (8, .v (.int .i64 ((ns.length - 1 : Nat) : Int))), (9, .sl 1 (A.map fun b => [AV.v (.bool b)])), (10, .sl 1 (C.map fun b => [AV.v (.bool b)])), (16, .ptr 6 0 0), (135, .v (.int .i64 (ns.length : Int))), (136, .v (.int .i64 (i : Int))), (17, .v (.int .i64 (i : Int))), (18, .ptr 16 0 0), (19, .v (.int .i64 0))], [(0, ⟨24, 2, [[.v (.int .i64 N), aRows L]]⟩), (1, ⟨28, 2, [[.v (.int .i64 N), aNds ns]]⟩), (6, ⟨60, 5, [[.v (.int .i64 N), aRows L, .v (.int .i64 N), aNds ns, aCls cl]]⟩), (16, ⟨24, 2, [[.v (.int .i64 N), aRows X]]⟩)], [16, 6, 1, 0]⟩) ?_ ?_
         ·(refine weak_id rfl ?_ ?_ <;> ((try simp only [List.mem_cons, List.not_mem_nil, or_false, forall_eq_or_imp, forall_eq]); (try simp (disch := omega) [i64w, *])))
          all_goals first | rfl | exact ⟨rfl, rfl⟩
         have hi0 : (0 : Int) ≤ (i : Int) := by omega
         have hi1 : (i : Int) < (ns.length : Int) := by omega
         have hacc := accepted_p N L ns cl (i : Int) X hp hi0 hi1 hxo hxc
         have hLL := okRows_len hL
         refine s_regionL ?_
         ((iterate 6 (((with_reducible refine spl_step TT_ok PT205_ok (id := 0) (σ' := ?_) ?_ ?_); rotate_left; (focus (simp [*]; rfl))))))
         refine spl_op rfl rfl (ok_callAll (f := 25) (avs := [.ptr 6 0 0, .v (.int .i64 (i : Int)), .agg [.v (.int .i64 N), aRows X]]) (bvs := [aPrf N L ns cl, .v (.int .i64 (i : Int)), aTh N X]) (res := .v (.bool (acptV N L ns cl (i : Int) X))) (enters_ok (avs := [.ptr 6 0 0, .v (.int .i64 (i : Int)), .agg [.v (.int .i64 N), aRows X]]) (cs := []) rfl (by kernel_rfl) rfl rfl) rfl (fun B4 G4 w4 a4 hr4 i4 u4 hi4 hu4 => ?_) hacc rfl) ?_
         ·match i4, hi4 with
          | 0, _ => exact read_ownPt hr4 rfl (by simp [AV.ids, idsL, idsLL]) hu4
          | 1, _ => exact Rv.isV hu4 rfl
          | 2, _ => exact Rv.pure (fun b p u h => hr4.heap.st b p u h) hu4 (by show (aTh N X).ids = []; unfold aTh; simp [AV.ids, idsL, idsLL])
         (refine spl_eq (τ := ?_) ?_ ?_; rotate_left; (focus ((try simp only [AS.frz, List.map_cons, List.map_nil]); (try simp [frzV, frzO, frzC, List.filter]); rfl)))
         cases hac : acptV N L ns cl (i : Int) X
         ·have hb1 : badV N L ns cl i = true := by rw [HBD3.out, hac]; rfl
          obtain rfl := HG1.out hb1
          ((iterate 2 (((with_reducible refine spl_step TT_ok PT205_ok (id := 0) (σ' := ?_) ?_ ?_); rotate_left; (focus (simp [*]; rfl))))))
          refine spl_nil ?_
          refine amStr (h := ?_)
          refine amReg PT205_ok (h := ?_)
          refine amStr (h := ?_)
          (refine amRt Tryz.results11 (h := ?_); try simp [*])
          rfl
         ·have hbd : badV N L ns cl i = (decide (i = ns.length - 1) && !decide (X = normL L)) := by rw [HBD3.out, hac]; rfl
          have HBD4 := Lib.hid hbd
          clear hbd HBD3 hacc
          have hnA : normA N L = .tup [.agg [.v (.int .i64 N), aRows (normL L)], .v (.int .i64 0)] := by unfold normA; rw [if_pos hz]; rfl
          have hno := okRows_check (normL_check hz)
          obtain ⟨Z, hZ⟩ : ∃ Z, normL L = Z := ⟨_, rfl⟩
          rw [hZ] at hnA hno
          have HZ := Lib.hid hZ
          clear hZ
          ((iterate 2 (((with_reducible refine spl_step TT_ok PT205_ok (id := 0) (σ' := ?_) ?_ ?_); rotate_left; (focus (simp [*]; rfl))))))
          refine spl_nil ?_
          refine amStr (h := ?_)
          refine amReg PT205_ok (h := ?_)
          refine amStr (h := ?_)
          by_cases hir : i = ns.length - 1
          ·have hib : ((i : Int) == ((ns.length - 1 : Nat) : Int)) = true := by rw [beq_iff_eq]; omega
           cases hxz : decide (X = Z)
           ·have hb1 : badV N L ns cl i = true := by rw [HBD4.out, HZ.out, hxz, decide_eq_true hir]; rfl
            obtain rfl := HG1.out hb1
            refine amReg PT205_ok (h := ?_)
            refine amStr (h := ?_)
            refine amReg PT205_ok (h := ?_)
            refine amStr (h := ?_)
            (refine amRt Tryz.results11 (h := ?_); try simp [*])
            rfl
           ·have hb1 : badV N L ns cl i = false := by rw [HBD4.out, HZ.out, hxz, decide_eq_true hir]; rfl
            have HR2 := Lib.hid (HG2.out hb1)
            clear hb1
            refine amReg PT205_ok (h := ?_)
            refine amStr (h := ?_)
            refine amReg PT205_ok (h := ?_)
            refine k_lp (⟨i + 1, hii, HR2⟩ : {q : Nat // q ≤ ns.length ∧ Hid (((List.range ns.length).drop q).find? (badV N L ns cl) = res)}) (by first | omega | (dsimp only; omega)) ?_
            (refine weak_id rfl ?_ ?_ <;> ((try simp only [List.mem_cons, List.not_mem_nil, or_false, forall_eq_or_imp, forall_eq]); (try simp (disch := omega) [i64w, *])))
            all_goals ((repeat' refine And.intro ?_ ?_) <;> first | rfl | omega)
          ·have hib : ((i : Int) == ((ns.length - 1 : Nat) : Int)) = false := by rw [beq_eq_false_iff_ne]; omega
           have hb1 : badV N L ns cl i = false := by rw [HBD4.out, decide_eq_false hir]; rfl
           have HR2 := Lib.hid (HG2.out hb1)
           clear hb1
           refine amReg PT205_ok (h := ?_)
           refine amStr (h := ?_)
           refine amReg PT205_ok (h := ?_)
           refine k_lp (⟨i + 1, hii, HR2⟩ : {q : Nat // q ≤ ns.length ∧ Hid (((List.range ns.length).drop q).find? (badV N L ns cl) = res)}) (by first | omega | (dsimp only; omega)) ?_
           (refine weak_id rfl ?_ ?_ <;> ((try simp only [List.mem_cons, List.not_mem_nil, or_false, forall_eq_or_imp, forall_eq]); (try simp (disch := omega) [i64w, *])))
           all_goals ((repeat' refine And.intro ?_ ?_) <;> first | rfl | omega)
      ·obtain rfl : i = ns.length := by omega
       have hr0 : res = none := by rw [← HR.out, List.drop_eq_nil_of_le (by simp)]; rfl
       subst hr0
       refine amStr (h := ?_)
       refine amReg PT205_ok (h := ?_)
       refine amStr (h := ?_)
       (refine amRt Tryz.results11 (h := ?_); try simp [*])
       rfl
    ·have hV := sp_no N L N ns cl fun h => hlen h.2.2.2
     have hlb : ((cl.length : Int) != (ns.length : Int)) = true := by simp; omega
     rw [hV]
     refine amReg PT205_ok (h := ?_)
     refine amStr (h := ?_)
     refine amReg PT205_ok (h := ?_)
     refine amStr (h := ?_)
     (refine amRt Tryz.results11 (h := ?_); try simp [*])
     rfl
   ·have hV := sp_no N L M ns cl fun h => hNM h.2.2.1
    have hlb : (N != M) = true := by simpa using hNM
    rw [hV]
    refine amReg PT205_ok (h := ?_)
    refine amStr (h := ?_)
    refine amReg PT205_ok (h := ?_)
    refine amStr (h := ?_)
    (refine amRt Tryz.results11 (h := ?_); try simp [*])
    rfl
  ·have hV := sp_no N L M ns cl fun h => hv h.2.1
   have hvE : errN M ns = 1 := by unfold errN; rw [if_neg hv]
   rw [hV]
   refine amReg PT205_ok (h := ?_)
   refine amStr (h := ?_)
   refine amReg PT205_ok (h := ?_)
   refine amStr (h := ?_)
   (refine amRt Tryz.results11 (h := ?_); try simp [*])
   rfl
 ·have hV := sp_no N L M ns cl fun h => hz h.1
  have hlb : (checkT N L != 0) = true := by simpa using hz
  rw [hV]
  refine amReg PT205_ok (h := ?_)
  refine amStr (h := ?_)
  refine amReg PT205_ok (h := ?_)
  refine amStr (h := ?_)
  (refine amRt Tryz.results11 (h := ?_); try simp [*])
  rfl
end Go.Proofs.YtllkogdgmmcfgaaGreatDoor
/- Vx23: The table with Verify; no condition. -/
namespace Go.Proofs.YtllkogdgmmcfgaaGreatDoor
set_option linter.unusedVariables false
set_option linter.unusedSimpArgs false
set_option linter.unusedSectionVars false
open Go.RowKit
set_option maxRecDepth 100000
@[simp] def g_vVerify : List AV → Option (AV × Bool)
 | [.agg [.v (.int .i64 N), a0], .agg [.v (.int .i64 M), a1], a2] => (match toRows a0 with | some L => (match toNds a1 with | some ns => (match toCls a2 with | some cl => if (okI N && okRows L && okI M && okNs ns && okCl cl) = true then some (.tup [.v (.int .i64 (verV N L M ns cl).1), .v (.int .i64 (verV N L M ns cl).2)], false) else none | none => none) | none => none) | none => none)
 | _ => none
theorem e_vVerify : EntOk Tryz.prog 11 g_vVerify := ent_pure (by kernel_rfl) fun args r fr h => by
 unfold g_vVerify at h
 split at h
 ·rename_i N a0 M a1 a2
  split at h
  ·rename_i L t0
   split at h
   ·rename_i ns t1
    split at h
    ·rename_i cl t2
     split at h
     ·rename_i hc
      simp only [Bool.and_eq_true] at hc
      obtain ⟨⟨⟨⟨m0, o0⟩, m1⟩, o1⟩, o2⟩ := hc
      cases h
      exact ⟨FnPure.cov (verify_p N L M ns cl m0 o0 m1 o1 o2) (.cons (cov_th _ (cov_rows t0)) (.cons (cov_th _ (cov_nds t1)) (.cons (cov_cls t2) .nil))), rfl⟩
     ·cases h
    ·cases h
   ·cases h
  ·cases h
 ·cases h

def l206 : List (FuncId × (List AV → Option (AV × Bool))) :=
 (11, g_vVerify) :: l205
theorem l206_ok : ∀ p ∈ l206, EntOk Tryz.prog p.1 p.2 := ent_cons e_vVerify (l205_ok)
def PT206 : PTab := tab l206
theorem PT206_ok : PTok Tryz.prog PT206 := tab_ok l206_ok
@[simp] theorem PT206_vVerify : PT206 11 = g_vVerify := rfl
@[simp] theorem PT206_old (f : FuncId) (h : decide (f ≠ 11) = true) : PT206 f = PT205 f := tab_old (of_decide_eq_true h)
end Go.Proofs.YtllkogdgmmcfgaaGreatDoor
/- Wn23: What Verify computes of the chapter's example; plain; no condition. -/
namespace Go.Proofs.YtllkogdgmmcfgaaGreatDoor
set_option linter.unusedVariables false
set_option linter.unusedSimpArgs false
set_option linter.unusedSectionVars false
open Go.RowKit
set_option maxRecDepth 100000
theorem nrm {N : Int} {X Y : List (List Int)} (hz : checkT N X = 0) (h : rNormK N X X.length = Y) : normL X = Y := (normL_rNorm hz).trans h
theorem gvE {N l : Int} {X Y Z : List (List Int)} (hg : givenT [l] X = Z) (hz : checkT N Z = 0) (h : rNormK N Z Z.length = Y) : gvV X l = Y := by unfold gvV; rw [hg]; exact nrm hz h
def exN : List Nd := [(2, 1, []), (2, -1, []), (2, 2, []), (2, 3, []), (3, 0, [0, 3]), (3, 0, [1, 2]), (4, 0, [4, 5])]
def exL : List (List Int) := [[1, 2], [-1, 3]]
def exC (cs : List Int) : List Cl := [([], []), ([], []), ([], []), ([], []), ([], []), ([], []), ([], cs)]
theorem ex_nL : normL exL = [[-1, 3], [1, 2]] := nrm (N := 3) (by decide +kernel) (by decide +kernel)
theorem ex_n0 : normL [] = [] := nrm (N := 3) (by decide +kernel) (by decide +kernel)
theorem ex_r1 : rsdL exL [] [0, 1] = [[-1, 3], [1, 2]] := by unfold rsdL; exact nrm (N := 3) (by decide +kernel) (by decide +kernel)
theorem ex_r2 : rsdL exL [] [0] = [[1, 2]] := by unfold rsdL; exact nrm (N := 3) (by decide +kernel) (by decide +kernel)
theorem ex_g1 : gvV [[-1, 3], [1, 2]] 1 = [[3]] := gvE (N := 3) rfl (by decide +kernel) (by decide +kernel)
theorem ex_g2 : gvV [[-1, 3], [1, 2]] (-1) = [[2]] := gvE (N := 3) rfl (by decide +kernel) (by decide +kernel)
theorem ex_g3 : gvV [[3]] 3 = [] := gvE (N := 3) rfl (by decide +kernel) (by decide +kernel)
theorem ex_g4 : gvV [[2]] 2 = [] := gvE (N := 3) rfl (by decide +kernel) (by decide +kernel)
theorem ex_g5 : gvV [[1, 2]] 1 = [] := gvE (N := 3) rfl (by decide +kernel) (by decide +kernel)
theorem fit_all {cl : List Cl} {R : List (List Int)} {is : List Int} (h : fit1 exN is.length R is = ([], [])) : fitV 3 exL exN cl R is = true := by
 unfold fitV
 rw [h]
 show (decide (checkT 3 [] = 0) && decide (([] : List (List Int)) = normL [])) = true
 rw [ex_n0]; decide +kernel
theorem f_1 : fit1 exN 1 [[3]] [3] = ([], []) := by
 have e : fit1 exN 1 [[3]] [3] = (gvV [[3]] 3, []) := by kernel_rfl
 rw [e, ex_g3]
theorem f_2 : fit1 exN 1 [[2]] [2] = ([], []) := by
 have e : fit1 exN 1 [[2]] [2] = (gvV [[2]] 2, []) := by kernel_rfl
 rw [e, ex_g4]
theorem side_and {cl : List Cl} {R : List (List Int)} {i l : Int} {k : Nat} {G : List (List Int)} (hk : kindN exN i = 3) (hf : (inN exN i).findIdx? (litI exN l) = some k) (hG : gvV R l = G) : sideV 3 exL exN cl R i l = fitV 3 exL exN cl G (cutI (inN exN i) k) := by
 unfold sideV
 rw [if_neg (by rw [hk]; decide), if_pos hk, hf, hG]
theorem side_no {cl : List Cl} {R : List (List Int)} {i l : Int} (hk : kindN exN i = 3) (hf : (inN exN i).findIdx? (litI exN l) = none) : sideV 3 exL exN cl R i l = false := by
 unfold sideV
 rw [if_neg (by rw [hk]; decide), if_pos hk, hf]
theorem ex_rs (cs : List Int) (h : goodB 3 2 [] cs = true) : rsV exL 3 ([], cs) = some (rsdL exL [] cs) := by unfold rsV; exact if_pos h
theorem ex_lt : ∀ i, i < 6 → nedB exN i = false ∧ knwB exN i = true := by decide +kernel
theorem ex_6 : nedB exN 6 = true := by decide +kernel
theorem ex_bad (cs : List Int) {i : Nat} (h : i < 6) : badV 3 exL exN (exC cs) i = false := by
 unfold badV
 rw [if_neg (by rw [(ex_lt i h).1]; decide), (ex_lt i h).2]; rfl
theorem ex_ver (cs : List Int) : verV 3 exL 3 exN (exC cs) = if badV 3 exL exN (exC cs) 6 = true then (6, 230) else (0, 0) := by
 unfold verV
 rw [if_pos ⟨by decide +kernel, by decide +kernel, rfl, rfl⟩]
 have e : List.range exN.length = [0, 1, 2, 3, 4, 5, 6] := by decide
 rw [e]
 simp only [List.find?_cons, ex_bad cs (show 0 < 6 by decide), ex_bad cs (show 1 < 6 by decide), ex_bad cs (show 2 < 6 by decide), ex_bad cs (show 3 < 6 by decide), ex_bad cs (show 4 < 6 by decide), ex_bad cs (show 5 < 6 by decide)]
 cases badV 3 exL exN (exC cs) 6 <;> rfl
theorem ex_v1 : verV 3 exL 3 exN (exC [0, 1]) = (0, 0) := by
 rw [ex_ver, if_neg]
 unfold badV
 rw [if_pos ex_6, show clN (exC [0, 1]) ((6 : Nat) : Int) = ([], [0, 1]) from rfl, ex_rs _ (by decide +kernel), ex_r1]
 have ha : acptV 3 exL exN (exC [0, 1]) ((6 : Nat) : Int) [[-1, 3], [1, 2]] = true := by
  have e : listS (varsT [[-1, 3], [1, 2]]) = [1, 2, 3] := by decide +kernel
  unfold acptV
  rw [e, if_neg (by decide), if_neg (by decide), if_neg (by decide), if_neg (by decide), if_neg (by decide)]
  have h1 : sideV 3 exL exN (exC [0, 1]) [[-1, 3], [1, 2]] 4 1 = true := (side_and (k := 0) (by decide) (by decide) ex_g1).trans (fit_all f_1)
  have h2 : sideV 3 exL exN (exC [0, 1]) [[-1, 3], [1, 2]] 5 (-1) = true := (side_and (k := 0) (by decide) (by decide) ex_g2).trans (fit_all f_2)
  show (((sideV 3 exL exN (exC [0, 1]) [[-1, 3], [1, 2]] 4 1 && sideV 3 exL exN (exC [0, 1]) [[-1, 3], [1, 2]] 5 (-1)) || _) || _) = true
  rw [h1, h2]; rfl
 show ¬ ((!acptV 3 exL exN (exC [0, 1]) ((6 : Nat) : Int) [[-1, 3], [1, 2]] || (decide (6 = exN.length - 1) && !decide ([[-1, 3], [1, 2]] = normL exL))) = true)
 rw [ha, ex_nL]; decide
theorem fit_no (cs : List Int) : fitV 3 exL exN (exC cs) [] [3] = false := by
 have e1 : fit1 exN 1 [] [3] = ([], [3]) := by kernel_rfl
 have e2 : fit2 3 exL exN (exC cs) [3] 0#128 [] = none := by
  rw [fit2, show clN (exC cs) 3 = ([], []) from rfl, ex_rs _ (by decide +kernel)]
  simp only
  rw [if_pos (by decide)]
 unfold fitV
 rw [show ([3] : List Int).length = 1 from rfl, e1]
 simp only [e2]
theorem ex_v2 : verV 3 exL 3 exN (exC [0]) = (6, 230) := by
 rw [ex_ver, if_pos]
 unfold badV
 rw [if_pos ex_6, show clN (exC [0]) ((6 : Nat) : Int) = ([], [0]) from rfl, ex_rs _ (by decide +kernel), ex_r2]
 have ha : acptV 3 exL exN (exC [0]) ((6 : Nat) : Int) [[1, 2]] = false := by
  have e : listS (varsT [[1, 2]]) = [1, 2] := by decide +kernel
  unfold acptV
  rw [e, if_neg (by decide), if_neg (by decide), if_neg (by decide), if_neg (by decide), if_neg (by decide)]
  have h1 : sideV 3 exL exN (exC [0]) [[1, 2]] 4 1 = false := (side_and (k := 0) (by decide) (by decide) ex_g5).trans (fit_no _)
  have h2 : sideV 3 exL exN (exC [0]) [[1, 2]] 4 (-1) = false := side_no (by decide) (by decide)
  have h3 : sideV 3 exL exN (exC [0]) [[1, 2]] 4 2 = false := side_no (by decide) (by decide)
  have h4 : sideV 3 exL exN (exC [0]) [[1, 2]] 4 (-2) = false := side_no (by decide) (by decide)
  show (((sideV 3 exL exN (exC [0]) [[1, 2]] 4 1 && _) || ((sideV 3 exL exN (exC [0]) [[1, 2]] 4 (-1) && _) || false)) || (((sideV 3 exL exN (exC [0]) [[1, 2]] 4 2 && _) || ((sideV 3 exL exN (exC [0]) [[1, 2]] 4 (-2) && _) || false)) || false)) = false
  rw [h1, h2, h3, h4]; rfl
 show ((!acptV 3 exL exN (exC [0]) ((6 : Nat) : Int) [[1, 2]] || (decide (6 = exN.length - 1) && !decide ([[1, 2]] = normL exL))) = true)
 rw [ha]; rfl
end Go.Proofs.YtllkogdgmmcfgaaGreatDoor
/- Wk23: The examples of the chapter hold: censuslaw23.works; no condition. -/
namespace Go.Proofs.YtllkogdgmmcfgaaGreatDoor
set_option linter.unusedVariables false
set_option linter.unusedSimpArgs false
set_option linter.unusedSectionVars false
open Go.RowKit
open Wlk
attribute [-simp] List.getD_eq_getElem?_getD
set_option maxRecDepth 100000
def exLc : List (List AV) := [[.sl 1 [[.v (.int .i64 1)], [.v (.int .i64 2)]]], [.sl 1 [[.v (.int .i64 (-1))], [.v (.int .i64 3)]]]]
def exNc : List (List AV) := [[.v (.int .i64 2), .v (.int .i64 1), .v (.slice none 0 0)], [.v (.int .i64 2), .v (.int .i64 (-1)), .v (.slice none 0 0)], [.v (.int .i64 2), .v (.int .i64 2), .v (.slice none 0 0)], [.v (.int .i64 2), .v (.int .i64 3), .v (.slice none 0 0)], [.v (.int .i64 3), .v (.int .i64 0), .sl 1 [[.v (.int .i64 0)], [.v (.int .i64 3)]]], [.v (.int .i64 3), .v (.int .i64 0), .sl 1 [[.v (.int .i64 1)], [.v (.int .i64 2)]]], [.v (.int .i64 4), .v (.int .i64 0), .sl 1 [[.v (.int .i64 4)], [.v (.int .i64 5)]]]]
def exCc (a : AV) : List (List AV) := [[.v (.slice none 0 0), .v (.slice none 0 0)], [.v (.slice none 0 0), .v (.slice none 0 0)], [.v (.slice none 0 0), .v (.slice none 0 0)], [.v (.slice none 0 0), .v (.slice none 0 0)], [.v (.slice none 0 0), .v (.slice none 0 0)], [.v (.slice none 0 0), .v (.slice none 0 0)], [.v (.slice none 0 0), a]]
set_option maxHeartbeats 8000000 in
theorem works_p : FnPure Tryz.prog 10 [] (.v (.bool true)) := by
 refine fn_sp TT_ok Tryz.func10 (c := _) rfl (by simp [Tryz.ntmps10]) (fun B hI0 hro => ?_)
 rw [Tryz.ntmps10]
 simp only [enumA]
 refine amStr (h := ?_)
 refine amReg PT206_ok (h := ?_)
 refine amStr (h := ?_)
 refine s_regionL ?_
 refine spl_call TT_ok rfl rfl rfl (by kernel_rfl) Tryz.func21 rfl (avs := []) (cs := []) rfl rfl (by simp [Tryz.ntmps21]) fun B1 hI1 hro1 => ?_
 rw [Tryz.ntmps21, Tryz.results21]
 simp only [enumA, List.append_nil]
 refine amStr (h := ?_)
 refine amReg PT206_ok (h := ?_)
 refine amStr (h := ?_)
 refine amReg PT206_ok (h := ?_)
 refine amStr (h := ?_)
 refine amReg PT206_ok (h := ?_)
 refine amStr (h := ?_)
 refine s_weak (τ := ⟨30, [(0, .ptr 0 0 0), (1, .ptr 1 0 0), (2, .v (.slice none 0 0)), (3, .ptr 6 0 0), (4, .ptr 19 0 0)], [(0, ⟨24, 2, [[.v (.int .i64 0), .v (.slice none 0 0)]]⟩), (1, ⟨28, 2, [[.v (.int .i64 0), .v (.slice none 0 0)]]⟩), (2, ⟨3, 1, [[.v (.int .i64 1)], [.v (.int .i64 2)]]⟩), (3, ⟨3, 1, [[.v (.int .i64 (-1))], [.v (.int .i64 3)]]⟩), (4, ⟨30, 1, [[.ref 2 0 2], [.ref 3 0 2]]⟩), (6, ⟨24, 2, [[.v (.int .i64 3), .ref 4 0 2]]⟩), (11, ⟨3, 1, [[.v (.int .i64 0)], [.v (.int .i64 3)]]⟩), (13, ⟨3, 1, [[.v (.int .i64 1)], [.v (.int .i64 2)]]⟩), (15, ⟨3, 1, [[.v (.int .i64 4)], [.v (.int .i64 5)]]⟩), (17, ⟨32, 3, [[.v (.int .i64 2), .v (.int .i64 1), .v (.slice none 0 0)], [.v (.int .i64 2), .v (.int .i64 (-1)), .v (.slice none 0 0)], [.v (.int .i64 2), .v (.int .i64 2), .v (.slice none 0 0)], [.v (.int .i64 2), .v (.int .i64 3), .v (.slice none 0 0)], [.v (.int .i64 3), .v (.int .i64 0), .ref 11 0 2], [.v (.int .i64 3), .v (.int .i64 0), .ref 13 0 2], [.v (.int .i64 4), .v (.int .i64 0), .ref 15 0 2]]⟩), (19, ⟨28, 2, [[.v (.int .i64 3), .ref 17 0 7]]⟩)], [19, 17, 15, 13, 11, 6, 4, 3, 2, 1, 0]⟩) ?_ ?_
 ·(refine weak_id rfl ?_ ?_ <;> ((try simp only [List.mem_cons, List.not_mem_nil, or_false, forall_eq_or_imp, forall_eq]); (try simp (disch := omega) [i64w, *])))
  all_goals first | rfl | ((repeat' refine And.intro ?_ ?_) <;> first | rfl | trace_state)
 refine s_frz (fun q => q == 2 || q == 3 || q == 11 || q == 13 || q == 15) ?_
 (refine s_eq (τ := ?_) ?_ ?_; rotate_left; (focus ((try simp only [AS.frz, List.map_cons, List.map_nil]); (try simp [frzV, frzO, frzC, List.filter]); rfl)))
 refine s_frz (fun q => q == 4 || q == 17) ?_
 (refine s_eq (τ := ?_) ?_ ?_; rotate_left; (focus ((try simp only [AS.frz, List.map_cons, List.map_nil]); (try simp [frzV, frzO, frzC, List.filter]); rfl)))
 refine amStr (h := ?_)
 refine amReg PT206_ok (h := ?_)
 refine amStr (h := ?_)
 refine amReg PT206_ok (h := ?_)
 refine amStr (h := ?_)
 refine amDrs PT206_ok (h := ?_)
 refine amStr (h := ?_)
 refine ⟨.inr rfl, .tup [.agg [.v (.int .i64 3), .sl 1 exLc], .agg [.v (.int .i64 3), .sl 3 exNc], .ref 20 0 7], by simp [retA, retL, ret1, lk, ldA, AV.cell, exLc, exNc]; try rfl, ?_⟩
 ((iterate 4 (((with_reducible refine spl_step TT_ok PT206_ok (id := 0) (σ' := ?_) ?_ ?_); rotate_left; (focus (simp [*]; rfl))))))
 (((with_reducible refine spl_step TT_ok PT206_ok (id := 40) (σ' := ?_) ?_ ?_); rotate_left; (focus (simp [*]; rfl))))
 (((with_reducible refine spl_step TT_ok PT206_ok (id := 41) (σ' := ?_) ?_ ?_); rotate_left; (focus (simp [*]; rfl))))
 ((iterate 3 (((with_reducible refine spl_step TT_ok PT206_ok (id := 0) (σ' := ?_) ?_ ?_); rotate_left; (focus (simp [*]; rfl))))))
 refine spl_nil ?_
 refine amStr (h := ?_)
 refine s_weak (τ := ⟨45, [(0, .v (.bool false)), (1, .ptr 40 0 0), (2, .ptr 41 0 0), (3, .ref 20 0 7)], [(20, ⟨37, 2, [[.v (.slice none 0 0), .v (.slice none 0 0)], [.v (.slice none 0 0), .v (.slice none 0 0)], [.v (.slice none 0 0), .v (.slice none 0 0)], [.v (.slice none 0 0), .v (.slice none 0 0)], [.v (.slice none 0 0), .v (.slice none 0 0)], [.v (.slice none 0 0), .v (.slice none 0 0)], [.v (.slice none 0 0), .ref 22 0 2]]⟩), (22, ⟨3, 1, [[.v (.int .i64 0)], [.v (.int .i64 1)]]⟩), (40, ⟨24, 2, [[.v (.int .i64 3), .sl 1 exLc]]⟩), (41, ⟨28, 2, [[.v (.int .i64 3), .sl 3 exNc]]⟩)], [41, 40, 22, 20]⟩) ?_ ?_
 ·(refine weak_id rfl ?_ ?_ <;> ((try simp only [List.mem_cons, List.not_mem_nil, or_false, forall_eq_or_imp, forall_eq]); (try simp (disch := omega) [i64w, *])))
  all_goals first | rfl | ((repeat' refine And.intro ?_ ?_) <;> first | rfl | decide)
 have i1 : okI 3 = true := rfl
 obtain ⟨xl, xn, x1, x2, yl, yn, y1, y2, hyl, hyn, hy1, hy2, e1, e2, e3, e4, e5, e6, e7, e8, i2, i3, i4, i5, t1, t2, t3, t4, v1, v2⟩ : ∃ xl xn x1 x2 yl yn y1 y2, exLc = yl ∧ exNc = yn ∧ exCc (.sl 1 [[.v (.int .i64 0)], [.v (.int .i64 1)]]) = y1 ∧ exCc (.sl 1 [[.v (.int .i64 0)]]) = y2 ∧ idsLL yl = [] ∧ idsLL yn = [] ∧ idsLL y1 = [] ∧ idsLL y2 = [] ∧ y1.length = 7 ∧ y2.length = 7 ∧ y1.take 7 = y1 ∧ y2.take 7 = y2 ∧ okRows xl = true ∧ okNs xn = true ∧ okCl x1 = true ∧ okCl x2 = true ∧ toRows (.sl 1 yl) = some xl ∧ toNds (.sl 3 yn) = some xn ∧ toCls (.sl 2 y1) = some x1 ∧ toCls (.sl 2 y2) = some x2 ∧ verV 3 xl 3 xn x1 = (0, 0) ∧ verV 3 xl 3 xn x2 = (6, 230) := ⟨exL, exN, exC [0, 1], exC [0], exLc, exNc, _, _, rfl, rfl, rfl, rfl, rfl, rfl, rfl, rfl, rfl, rfl, rfl, rfl, rfl, rfl, rfl, rfl, rfl, rfl, rfl, rfl, ex_v1, ex_v2⟩
 rw [hyl, hyn]
 refine s_frz (fun q => q == 22) ?_
 (refine s_eq (τ := ?_) ?_ ?_; rotate_left; (focus ((try simp only [AS.frz, List.map_cons, List.map_nil]); (try simp [frzV, frzO, frzC, List.filter]); rfl)))
 have hy1b := hy1
 have hy2b := hy2
 unfold exCc at hy1b hy2b
 have HY1 := Lib.hid hy1b
 have HY2 := Lib.hid hy2b
 clear hy1 hy2 hy1b hy2b hyl hyn
 rw [HY1.out]
 refine amStr (h := ?_)
 refine amReg PT206_ok (h := ?_)
 refine s_weak (τ := ⟨45, [(0, .v (.bool false)), (1, .ptr 40 0 0), (2, .ptr 41 0 0), (3, .ref 20 0 7), (4, .v (.int .i64 0)), (5, .v (.int .i64 0))], [(20, ⟨37, 2, [[.v (.slice none 0 0), .v (.slice none 0 0)], [.v (.slice none 0 0), .v (.slice none 0 0)], [.v (.slice none 0 0), .v (.slice none 0 0)], [.v (.slice none 0 0), .v (.slice none 0 0)], [.v (.slice none 0 0), .v (.slice none 0 0)], [.v (.slice none 0 0), .v (.slice none 0 0)], [.v (.slice none 0 0), .sl 1 [[.v (.int .i64 0)], [.v (.int .i64 1)]]]]⟩), (40, ⟨24, 2, [[.v (.int .i64 3), .sl 1 yl]]⟩), (41, ⟨28, 2, [[.v (.int .i64 3), .sl 3 yn]]⟩)], [41, 40, 20]⟩) ?_ ?_
 ·(refine weak_id rfl ?_ ?_ <;> ((try simp only [List.mem_cons, List.not_mem_nil, or_false, forall_eq_or_imp, forall_eq]); (try simp (disch := omega) [i64w, *])))
  all_goals first | rfl | ((repeat' refine And.intro ?_ ?_) <;> first | rfl | decide | exact HY1.out.symm | trace_state)
 refine amStr (h := ?_)
 refine amReg PT206_ok (h := ?_)
 refine amStr (h := ?_)
 clear e3 e5 e7 t3 v1 i4 HY1
 refine s_frz (fun q => q == 43) ?_
 (refine s_eq (τ := ?_) ?_ ?_; rotate_left; (focus ((try simp only [AS.frz, List.map_cons, List.map_nil]); (try simp [frzV, frzO, frzC, List.filter]); rfl)))
 rw [HY2.out]
 refine amReg PT206_ok (h := ?_)
 refine amStr (h := ?_)
 refine amReg PT206_ok (h := ?_)
 refine amStr (h := ?_)
 (refine amRt Tryz.results10 (h := ?_); try simp [*])
end Go.Proofs.YtllkogdgmmcfgaaGreatDoor
