/- The law CanonCounts, by the abstract machine; no condition. -/
import Derived.Test.YtafikekndefjcaaDoorSh17
import Derived.Test.YtafikekndefjcaaDoorWa
import Derived.Test.YtafikekndefjcaaDoorFq
import Derived.Test.YtafikekndefjcaaDoorSp3
import Derived.Test.YtafikekndefjcaaDoorCvG
import Derived.Test.YtafikekndefjcaaDoorRows
import Derived.Test.YtafikekndefjcaaDoorLd
namespace Go.Proofs.YtafikekndefjcaaDoor
set_option linter.unusedVariables false
set_option linter.unusedSimpArgs false
set_option linter.unusedSectionVars false
open Go.ChangeShapes Go.WideShapes Go.ChangeAt Go.RowKit
attribute [local simp] List.getD_cons_zero List.getD_cons_succ List.getD_nil undef gvars runL runE effA stepA dstOk wantA core lk st dl AS.ev AS.evs AS.put AS.upd updO updI nxt cPick cAlloc cBox cBuild cBuildS cLoad cStore cNil plainOf cBin cNilS isNilS nilA cUn cConvX cConvB cConv bytesOf rowB cMake cSlice slA idxA cFA cF cIA cIX cIS cI cExt cLen cApp cMM cFun cCall lenA lenM isNilM nilM cNilM cMakeM hintB cMapK cLook foundR lookR cUpd putM cDel delM findA isKeyB Instr.sameNow AS.entry AS.bound AS.callee sc1 sc2 ixOk ldA AV.flat AV.cell AV.cells Value.oneCell' fillA spl chunk zeros AS.parts AS.rows AS.shut AS.shut1 AS.shut2 AS.shutL AS.shutM AV.ids idsL idsLL eqAll bndA AV.scalar AV.scalar1 AV.isV Ef.app Ef.pk ptOf pntO wrO wr
attribute [-simp] List.getD_eq_getElem?_getD
def l85 : List (FuncId × (List AV → Option (AV × Bool))) :=
  (22, g_few) :: l83
theorem l85_ok : ∀ p ∈ l85, EntOk Tryd.prog p.1 p.2 := ent_cons e_few (l83_ok)
def PT85 : PTab := tab l85
theorem PT85_ok : PTok Tryd.prog PT85 := tab_ok l85_ok
@[simp] theorem PT85_litVar : PT85 37 = g_litVar := rfl
@[simp] theorem PT85_litValid : PT85 60 = g_litValid := rfl
@[simp] theorem PT85_check : PT85 41 = g_check := rfl
@[simp] theorem PT85_with : PT85 55 = g_with := rfl
@[simp] theorem PT85_all : PT85 43 = g_all := rfl
@[simp] theorem PT85_rValid : PT85 75 = g_rValid := rfl
@[simp] theorem PT85_rHas : PT85 40 = g_rHas := rfl
@[simp] theorem PT85_rCheck : PT85 56 = g_rCheck := rfl
@[simp] theorem PT85_litvalid : PT85 66 = g_litvalid := rfl
@[simp] theorem PT85_opposite : PT85 68 = g_opposite := rfl
@[simp] theorem PT85_clone : PT85 81 = g_clone := rfl
@[simp] theorem PT85_order : PT85 67 = g_order := rfl
@[simp] theorem PT85_clause : PT85 48 = g_clause := rfl
@[simp] theorem PT85_equal : PT85 52 = g_equal := rfl
@[simp] theorem PT85_distinct : PT85 51 = g_distinct := rfl
@[simp] theorem PT85_normal : PT85 34 = g_normal := rfl
@[simp] theorem PT85_rContains : PT85 76 = g_rContains := rfl
@[simp] theorem PT85_rSameInts : PT85 18 = g_rSameInts := rfl
@[simp] theorem PT85_rAbs : PT85 59 = g_rAbs := rfl
@[simp] theorem PT85_rBefore : PT85 77 = g_rBefore := rfl
@[simp] theorem PT85_rSorted : PT85 57 = g_rSorted := rfl
@[simp] theorem PT85_rPut : PT85 58 = g_rPut := rfl
@[simp] theorem PT85_rNormal : PT85 38 = g_rNormal := rfl
@[simp] theorem PT85_place : PT85 74 = g_place := rfl
@[simp] theorem PT85_vHas : PT85 79 = g_vHas := rfl
@[simp] theorem PT85_vMinus : PT85 61 = g_vMinus := rfl
@[simp] theorem PT85_vSub : PT85 42 = g_vSub := rfl
@[simp] theorem PT85_litHolds : PT85 64 = g_litHolds := rfl
@[simp] theorem PT85_litAny : PT85 44 = g_litAny := rfl
@[simp] theorem PT85_thEval : PT85 24 = g_thEval := rfl
@[simp] theorem PT85_rSame : PT85 17 = g_rSame := rfl
@[simp] theorem PT85_thVars : PT85 36 = g_thVars := rfl
@[simp] theorem PT85_rVars : PT85 39 = g_rVars := rfl
@[simp] theorem PT85_light : PT85 12 = g_light := rfl
@[simp] theorem PT85_vList : PT85 35 = g_vList := rfl
@[simp] theorem PT85_cSmall : PT85 15 = g_cSmall := rfl
@[simp] theorem PT85_rSmall : PT85 16 = g_rSmall := rfl
@[simp] theorem PT85_works17 : PT85 13 = g_works17 := rfl
@[simp] theorem PT85_copy : PT85 14 = g_copy := rfl
@[simp] theorem PT85_bEq : PT85 21 = g_bEq := rfl
@[simp] theorem PT85_cKey : PT85 19 = g_cKey := rfl
@[simp] theorem PT85_rKey : PT85 20 = g_rKey := rfl
@[simp] theorem PT85_few : PT85 22 = g_few := rfl
set_option maxRecDepth 100000
theorem toSet_nat {k : Nat} (hk : k < 2 ^ 64) : toSet (.agg [.v (.int .u64 (k : Int)), .v (.int .u64 0)]) = some (nSet k) := by
  show (if (BitVec.ofNat 64 k).toNat = k ∧ (BitVec.ofNat 64 0).toNat = 0 then some (BitVec.ofNat 64 0 ++ BitVec.ofNat 64 k) else none) = _
  rw [if_pos ⟨by rw [BitVec.toNat_ofNat]; exact Nat.mod_eq_of_lt hk, rfl⟩]
  congr 1
  apply BitVec.eq_of_toNat_eq
  unfold nSet
  rw [BitVec.toNat_append, BitVec.toNat_ofNat, BitVec.toNat_ofNat, BitVec.toNat_ofNat]
  rw [Nat.mod_eq_of_lt hk, Nat.mod_eq_of_lt (Nat.lt_of_lt_of_le hk (Nat.pow_le_pow_right (by omega) (by omega)))]
  simp
theorem sUpto_nat {k n : Nat} (hk : k < 2 ^ n) (hn : n ≤ 64) : sUpto (nSet k) (n : Int) = true := by
  rw [sUpto_iff _ _ (by omega)]
  intro v hv
  have hk64 : k < 2 ^ 64 := Nat.lt_of_lt_of_le hk (Nat.pow_le_pow_right (by omega) hn)
  by_cases h : v ≤ 128
  · rw [sHas_nSet hk64 (by omega) h]
    exact Nat.testBit_lt_two_pow (Nat.lt_of_lt_of_le hk (Nat.pow_le_pow_right (by omega) (by omega)))
  · unfold sHas
    rw [decide_eq_false h]; simp
theorem counts_law {q : Nat} {T : List (List Int)} (hz : checkT (q : Int) T = 0) (hq : q ≤ 8) :
    (smallN (normL T)).length ≤ q ∧ (∀ v ∈ smallN (normL T), 1 ≤ v ∧ v ≤ (q : Int)) ∧ (∀ k, k < 2 ^ q → evalT ((smallN (normL T)).length : Int) (smallL (normL T)) (nSet (projK (smallN (normL T)) k (smallN (normL T)).length)) = evalT (q : Int) T (nSet k)) ∧
    cnt (fun k => evalT (q : Int) T (nSet k)) (2 ^ q) = 2 ^ (q - (smallN (normL T)).length) * cnt (fun s => evalT ((smallN (normL T)).length : Int) (smallL (normL T)) (nSet s)) (2 ^ (smallN (normL T)).length) := by
  have hz2 := normL_check hz
  obtain ⟨h0, _, _, h3⟩ := checkT_ok hz2
  have hr : ∀ v ∈ smallN (normL T), 1 ≤ v ∧ v ≤ (q : Int) := fun v hv => by
    obtain ⟨h1, c, hc, l, hl, rfl⟩ := (sHas_varsT _ v).1 ((listS_mem _ _).1 hv)
    have := litVar_abs ((h3 c hc).2 l hl)
    omega
  have hlen : (smallN (normL T)).length ≤ q := by have := sorted_len (listS_sorted (varsT (normL T))) hr (by omega); unfold smallN; omega
  have hev : ∀ k, k < 2 ^ q → evalT ((smallN (normL T)).length : Int) (smallL (normL T)) (nSet (projK (smallN (normL T)) k (smallN (normL T)).length)) = evalT (q : Int) T (nSet k) := fun k hk =>
    small_eval hz (by omega) (by rw [Int.toNat_natCast]; exact hk) (sUpto_nat hk (by omega)) (sUpto_nat (projK_lt ..) (by omega))
  refine ⟨hlen, hr, hev, ?_⟩
  rw [← cnt_proj q (smallN (normL T)) _ (listS_sorted _) hr]
  exact cnt_congr fun k hk => (hev k hk).symm
theorem two_shl {n : Nat} (hn : n ≤ 8) : IntKind.u64.wrap (2 ^ min n IntKind.u64.bits) = ((2 ^ n : Nat) : Int) := by
  rw [show min n IntKind.u64.bits = n from by have : IntKind.u64.bits = 64 := rfl; omega]
  have h1 : 2 ^ n ≤ 2 ^ 8 := Nat.pow_le_pow_right (by omega) hn
  have h2 := Nat.two_pow_pos n
  rw [u64w (by exact_mod_cast Nat.zero_le _) (by have : (2 : Int) ^ n = ((2 ^ n : Nat) : Int) := by push_cast; rfl
                                                 omega)]
  push_cast; rfl
theorem prj_shr (k w : Nat) (hw : w ≤ 64) : (k : Int).fdiv (2 ^ min w IntKind.u64.bits) = ((k / 2 ^ w : Nat) : Int) := by
  rw [show min w IntKind.u64.bits = w from by have : IntKind.u64.bits = 64 := rfl; omega]
  rw [Int.fdiv_eq_ediv_of_nonneg _ (by exact_mod_cast Nat.zero_le _)]
  push_cast; rfl
theorem b64n : (2 : Nat) ^ IntKind.u64.bits = 18446744073709551616 := rfl
theorem prj_and {D : Nat} (hD : D < 18446744073709551616) : IntKind.u64.wrap ((D % 2 ^ IntKind.u64.bits &&& 1 % 2 ^ IntKind.u64.bits : Nat) : Int) = ((D % 2 : Nat) : Int) := by
  rw [b64n, Nat.mod_eq_of_lt hD, show 1 % 18446744073709551616 = 1 from rfl, Nat.and_one_is_mod]
  exact u64w (by omega) (by omega)
theorem prj_shl {β i : Nat} (hb : β ≤ 1) (hi : i ≤ 8) : IntKind.u64.wrap ((β : Int) * 2 ^ min i IntKind.u64.bits) = ((β * 2 ^ i : Nat) : Int) := by
  rw [show min i IntKind.u64.bits = i from by have : IntKind.u64.bits = 64 := rfl; omega]
  have h1 : 2 ^ i ≤ 2 ^ 8 := Nat.pow_le_pow_right (by omega) hi
  have h2 : β * 2 ^ i ≤ 1 * 2 ^ i := Nat.mul_le_mul_right _ hb
  have e : (β : Int) * 2 ^ i = ((β * 2 ^ i : Nat) : Int) := by push_cast; rfl
  rw [e]
  exact u64w (by omega) (by omega)
theorem prj_or {p β i : Nat} (hp : p < 2 ^ i) (hb : β ≤ 1) (hi : i ≤ 8) : IntKind.u64.wrap ((p % 2 ^ IntKind.u64.bits ||| (β * 2 ^ i) % 2 ^ IntKind.u64.bits : Nat) : Int) = ((p + β * 2 ^ i : Nat) : Int) := by
  have h1 : 2 ^ i ≤ 2 ^ 8 := Nat.pow_le_pow_right (by omega) hi
  have h2 : β * 2 ^ i ≤ 1 * 2 ^ i := Nat.mul_le_mul_right _ hb
  rw [b64n, Nat.mod_eq_of_lt (by omega), Nat.mod_eq_of_lt (by omega)]
  have h3 : p ||| β * 2 ^ i = p + β * 2 ^ i := by
    rw [Nat.or_comm, Nat.mul_comm, ← Nat.two_pow_add_eq_or_of_lt hp, Nat.add_comm]
  rw [h3]
  exact u64w (by omega) (by omega)
theorem prj_bit (k w i : Nat) : (if k.testBit w then 2 ^ i else 0) = k / 2 ^ w % 2 * 2 ^ i := by
  rw [Nat.testBit_eq_decide_div_mod_eq]
  rcases Nat.mod_two_eq_zero_or_one (k / 2 ^ w) with h | h <;> rw [h] <;> simp
set_option maxHeartbeats 4000000 in
theorem counts_ok (N : Int) (L : List (List Int)) (n : Int) (hN : okI N = true) (hL : okRows L = true) (hl : lightB L = true) (hn0 : 0 ≤ n) (hn1 : n ≤ 255) :
    FnPure Tryd.prog 6 [aTh N L, .v (.int .u8 n)] (.v (.bool true)) := by
  have hLl := okLens_rows hL
  obtain ⟨q0, hq0⟩ : ∃ q, n.tmod 9 = q := ⟨_, rfl⟩
  have q1 : 0 ≤ q0 ∧ q0 < 9 := by rw [← hq0, Int.tmod_eq_emod_of_nonneg hn0]; omega
  obtain ⟨q, rfl⟩ := Int.eq_ofNat_of_zero_le q1.1
  have hq8 : q ≤ 8 := by omega
  have hqw : IntKind.i64.wrap (q : Int) = q := i64w (by omega) (by omega)
  have hqu : IntKind.u64.wrap (q : Int) = q := u64w (by omega) (by omega)
  have hqo : okI (q : Int) = true := okI_iff.2 ⟨by omega, by omega⟩
  have h60 : L.length ≤ 60 := by
    simp only [lightB, Bool.and_eq_true, decide_eq_true_eq] at hl
    exact hl.2
  have hfo : fewOk (q : Int) L = true := fewOk_iff.2 ⟨h60, by omega, by omega⟩
  have hz := fewT_check (n := (q : Int)) (L := L) (by omega) (by omega) (by omega)
  obtain ⟨hm, hr, hev, hcnt⟩ := counts_law hz hq8
  have hz3 := small_check (normL_check hz)
  have hsA : smallA (q : Int) (fewT (q : Int) L) = .tup [.agg [.v (.int .i64 ((smallN (normL (fewT (q : Int) L))).length : Int)), aRows (smallL (normL (fewT (q : Int) L)))], aInts (smallN (normL (fewT (q : Int) L))), .v (.int .i64 0)] := by unfold smallA; rw [if_pos hz]; rfl
  have hRT := okRows_check hz
  have hRU := okRows_check hz3
  clear hz hz3 h60
  obtain ⟨T, hT⟩ : ∃ T, fewT (q : Int) L = T := ⟨_, rfl⟩
  rw [hT] at hm hr hev hcnt hsA hRT hRU
  generalize smallL (normL T) = U at *
  generalize smallN (normL T) = names at *
  obtain ⟨m, hml⟩ : ∃ m, names.length = m := ⟨_, rfl⟩
  rw [hml] at hm hev hcnt hsA
  have hmo : okI (m : Int) = true := okI_iff.2 ⟨by omega, by omega⟩
  have hmu : IntKind.u64.wrap (m : Int) = m := u64w (by omega) (by omega)
  have hsh := two_shl hq8
  have hsh2 := two_shl (show m ≤ 8 by omega)
  obtain ⟨P, hP⟩ : ∃ P, 2 ^ q = P := ⟨_, rfl⟩
  obtain ⟨P2, hP2⟩ : ∃ P, 2 ^ m = P := ⟨_, rfl⟩
  have hP256 : P ≤ 256 := by rw [← hP]; exact Nat.pow_le_pow_right (by omega) hq8
  have hP2256 : P2 ≤ 256 := by rw [← hP2]; exact Nat.pow_le_pow_right (n := 2) (by omega) (show m ≤ 8 by omega)
  rw [hP] at hsh hev hcnt
  rw [hP2] at hsh2 hcnt
  obtain ⟨E, hE⟩ : ∃ E : Nat → Bool, (fun k => evalT (q : Int) T (nSet k)) = E := ⟨_, rfl⟩
  obtain ⟨F, hF⟩ : ∃ F : Nat → Bool, (fun s => evalT (m : Int) U (nSet s)) = F := ⟨_, rfl⟩
  rw [hE, hF] at hcnt
  have hEk : ∀ k, evalT (q : Int) T (nSet k) = E k := fun k => congrFun hE k
  have hFk : ∀ k, evalT (m : Int) U (nSet k) = F k := fun k => congrFun hF k
  simp only [hEk, hFk] at hev
  unfold aTh
  have hfe : aTh (q : Int) T = .agg [.v (.int .i64 (q : Int)), aRows T] := rfl
  refine fn_sp TT_ok Tryd.func6 (c := _) rfl (by simp [Tryd.ntmps6]) (fun B hI0 hro => ?_)
  rw [Tryd.ntmps6]
  simp only [enumA]
  refine amGo PT85_ok (h := ?_)
  refine s_regionL ?_
  ((iterate 4 (((with_reducible refine spl_step TT_ok PT85_ok (id := 0) (σ' := ?_) ?_ ?_); rotate_left; (focus (simp [*]; rfl))))))
  (refine spl_eq (τ := ?_) ?_ ?_; rotate_left; (focus ((try simp only [AS.frz, List.map_cons, List.map_nil]); (try simp [frzV, frzO, frzC, List.filter]); rfl)))
  ((iterate 1 (((with_reducible refine spl_step TT_ok PT85_ok (id := 0) (σ' := ?_) ?_ ?_); rotate_left; (focus (simp [*]; rfl))))))
  refine spl_nil ?_
  refine amStr (h := ?_)
  refine s_loop (J := fun k : {k : Nat // k ≤ P} => ⟨107, [(2, .ptr 0 0 0), (4, .v (.bool false)), (5, .ptr 7 0 0), (6, aInts names), (8, .v (.int .i64 (cnt E k.1 : Int))), (9, .v (.int .i64 0)), (43, .v (.int .u64 (P : Int))), (44, .v (.int .u64 (k.1 : Int)))], [(0, ⟨24, 2, [[.v (.int .i64 (q : Int)), aRows T]]⟩), (7, ⟨24, 2, [[.v (.int .i64 (m : Int)), aRows U]]⟩)], [7, 0]⟩) (μ := fun k => P - k.1) ⟨0, Nat.zero_le _⟩ ?_ (fun ⟨k, hk⟩ => ?_)
  · have hc0 : cnt E 0 = 0 := rfl
    (refine weak_id rfl ?_ ?_ <;> ((try simp only [List.mem_cons, List.not_mem_nil, or_false, forall_eq_or_imp, forall_eq]); (try simp (disch := omega) [i64w, *])))
    all_goals rfl
  have hcl := cnt_le E k
  have hcs := cnt_succ E k
  have hwk : IntKind.u64.wrap ((k : Int) + 1) = (k : Int) + 1 := u64w (by omega) (by omega)
  refine amGo PT85_ok (h := ?_)
  (focus ((with_reducible refine sp_cond (b := ?_) ?_ (fun hc => ?_) (fun hc => ?_)); rotate_left; (focus (first | rfl | (simp [lk, AS.ev]; rfl))); all_goals (try simp at hc)))
  · have hkk := hc
    clear hc
    refine amGo PT85_ok (h := ?_)
    refine s_loop (J := fun i : {i : Nat // i ≤ m} => ⟨107, [(2, .ptr 0 0 0), (4, .v (.bool false)), (5, .ptr 7 0 0), (6, aInts names), (8, .v (.int .i64 (cnt E k : Int))), (9, .v (.int .i64 0)), (10, .v (.int .u64 (k : Int))), (11, .v (.int .u64 (projK names k i.1 : Int))), (43, .v (.int .u64 (P : Int))), (44, .v (.int .u64 (k : Int))), (47, aInts names), (48, .v (.int .i64 (m : Int))), (49, .v (.int .i64 (i.1 : Int)))], [(0, ⟨24, 2, [[.v (.int .i64 (q : Int)), aRows T]]⟩), (7, ⟨24, 2, [[.v (.int .i64 (m : Int)), aRows U]]⟩)], [7, 0]⟩) (μ := fun i => m - i.1) ⟨0, Nat.zero_le _⟩ ?_ (fun ⟨i, hi⟩ => ?_)
    · have hp0 : projK names k 0 = 0 := rfl
      (refine weak_id rfl ?_ ?_ <;> ((try simp only [List.mem_cons, List.not_mem_nil, or_false, forall_eq_or_imp, forall_eq]); (try simp (disch := omega) [i64w, *])))
      all_goals rfl
    refine amGo PT85_ok (h := ?_)
    (focus ((with_reducible refine sp_cond (b := ?_) ?_ (fun hc => ?_) (fun hc => ?_)); rotate_left; (focus (first | rfl | (simp [lk, AS.ev]; rfl))); all_goals (try simp at hc)))
    · have hii : i < names.length := by omega
      have him : i < m := by omega
      clear hc
      obtain ⟨v1, v2⟩ := hr _ (getD_memI hii)
      have hpl := projK_lt names k i
      have hpk : projK names k (i + 1) = projK names k i + (if k.testBit ((names.getD i 0).toNat - 1) then 2 ^ i else 0) := rfl
      obtain ⟨v, hv⟩ : ∃ v, names.getD i 0 = v := ⟨_, rfl⟩
      rw [hv] at v1 v2 hpk
      have hvw : IntKind.i64.wrap (v - 1) = v - 1 := i64w (by omega) (by omega)
      have hvu : IntKind.u64.wrap (v - 1) = v - 1 := u64w (by omega) (by omega)
      have hiu : IntKind.u64.wrap (i : Int) = i := u64w (by omega) (by omega)
      have hwi : IntKind.i64.wrap ((i : Int) + 1) = (i : Int) + 1 := i64s i (by omega)
      have hv0 : ¬ v - 1 < 0 := by omega
      have hv0' : ¬ v < 1 := by omega
      have hshr := prj_shr k (v.toNat - 1) (by omega)
      have hdl : k / 2 ^ (v.toNat - 1) ≤ k := Nat.div_le_self _ _
      obtain ⟨D, hD⟩ : ∃ D, k / 2 ^ (v.toNat - 1) = D := ⟨_, rfl⟩
      rw [prj_bit, hD] at hpk
      rw [hD] at hshr hdl
      have hand := prj_and (D := D) (by omega)
      obtain ⟨β, hβ⟩ : ∃ β, D % 2 = β := ⟨_, rfl⟩
      have hb1 : β ≤ 1 := by omega
      rw [hβ] at hand hpk
      have hshl := prj_shl hb1 (show i ≤ 8 by omega)
      have hor := prj_or hpl hb1 (show i ≤ 8 by omega)
      rw [← hpk] at hor
      obtain ⟨X, hX⟩ : ∃ X, β * 2 ^ i = X := ⟨_, rfl⟩
      rw [hX] at hshl hor
      clear hpk hX hβ hD
      refine amStr (h := ?_)
      refine amReg PT85_ok (h := ?_)
      refine amStr (h := ?_)
      refine s_regionL ?_
      ((iterate 5 (((with_reducible refine spl_step TT_ok PT85_ok (id := 0) (σ' := ?_) ?_ ?_); rotate_left; (focus (simp [*]; rfl))))))
      (refine spl_eq (τ := ?_) ?_ ?_; rotate_left; (focus ((try simp only [AS.frz, List.map_cons, List.map_nil]); (try simp [frzV, frzO, frzC, List.filter]); rfl)))
      ((iterate 1 (((with_reducible refine spl_step TT_ok PT85_ok (id := 0) (σ' := ?_) ?_ ?_); rotate_left; (focus (simp [*]; rfl))))))
      (refine spl_eq (τ := ?_) ?_ ?_; rotate_left; (focus ((try simp only [AS.frz, List.map_cons, List.map_nil]); (try simp [frzV, frzO, frzC, List.filter]); rfl)))
      ((iterate 1 (((with_reducible refine spl_step TT_ok PT85_ok (id := 0) (σ' := ?_) ?_ ?_); rotate_left; (focus (simp [*]; rfl))))))
      (refine spl_eq (τ := ?_) ?_ ?_; rotate_left; (focus ((try simp only [AS.frz, List.map_cons, List.map_nil]); (try simp [frzV, frzO, frzC, List.filter]); rfl)))
      ((iterate 2 (((with_reducible refine spl_step TT_ok PT85_ok (id := 0) (σ' := ?_) ?_ ?_); rotate_left; (focus (simp [*]; rfl))))))
      ((iterate 1 (((with_reducible refine spl_step TT_ok PT85_ok (id := 0) (σ' := ?_) ?_ ?_); rotate_left; (focus (simp [*]; rfl))))))
      (refine spl_eq (τ := ?_) ?_ ?_; rotate_left; (focus ((try simp only [AS.frz, List.map_cons, List.map_nil]); (try simp [frzV, frzO, frzC, List.filter]); rfl)))
      ((iterate 1 (((with_reducible refine spl_step TT_ok PT85_ok (id := 0) (σ' := ?_) ?_ ?_); rotate_left; (focus (simp [*]; rfl))))))
      (refine spl_eq (τ := ?_) ?_ ?_; rotate_left; (focus ((try simp only [AS.frz, List.map_cons, List.map_nil]); (try simp [frzV, frzO, frzC, List.filter]); rfl)))
      ((iterate 1 (((with_reducible refine spl_step TT_ok PT85_ok (id := 0) (σ' := ?_) ?_ ?_); rotate_left; (focus (simp [*]; rfl))))))
      refine spl_nil ?_
      refine amStr (h := ?_)
      refine amReg PT85_ok (h := ?_)
      refine k_lp (⟨i + 1, by omega⟩ : {i : Nat // i ≤ m}) (by dsimp only; omega) ?_
      (refine weak_id rfl ?_ ?_ <;> ((try simp only [List.mem_cons, List.not_mem_nil, or_false, forall_eq_or_imp, forall_eq]); (try simp (disch := omega) [i64w, *])))
    · obtain rfl : m = i := by omega
      clear hc
      have hset := toSet_nat (k := k) (by omega)
      have hpl := projK_lt names k m
      have hset2 := toSet_nat (k := projK names k m) (Nat.lt_of_lt_of_le hpl (Nat.pow_le_pow_right (by omega) (by omega)))
      have hevk := hev k hkk
      have hwc : IntKind.i64.wrap ((cnt E k : Int) + 1) = (cnt E k : Int) + 1 := i64w (by omega) (by omega)
      clear hev
      cases hEb : E k
      · rw [hEb] at hevk hcs
        simp only [Bool.false_eq_true, if_false, Nat.add_zero] at hcs
        refine amGo PT85_ok (h := ?_)
        refine k_lp (⟨k + 1, by omega⟩ : {k : Nat // k ≤ P}) (by dsimp only; omega) ?_
        (refine weak_id rfl ?_ ?_ <;> ((try simp only [List.mem_cons, List.not_mem_nil, or_false, forall_eq_or_imp, forall_eq]); (try simp (disch := omega) [i64w, *])))
      · rw [hEb] at hevk hcs
        simp only [if_true] at hcs
        refine amGo PT85_ok (h := ?_)
        refine k_lp (⟨k + 1, by omega⟩ : {k : Nat // k ≤ P}) (by dsimp only; omega) ?_
        (refine weak_id rfl ?_ ?_ <;> ((try simp only [List.mem_cons, List.not_mem_nil, or_false, forall_eq_or_imp, forall_eq]); (try simp (disch := omega) [i64w, *])))
  · obtain rfl : P = k := by omega
    have hcH : Ok1 (cnt E P = 2 ^ (q - m) * cnt F P2) := ⟨hcnt⟩
    clear hc hcs hwk hev hcnt
    refine amStr (h := ?_)
    refine s_regionL ?_
    ((iterate 4 (((with_reducible refine spl_step TT_ok PT85_ok (id := 0) (σ' := ?_) ?_ ?_); rotate_left; (focus (simp [*]; rfl))))))
    (refine spl_eq (τ := ?_) ?_ ?_; rotate_left; (focus ((try simp only [AS.frz, List.map_cons, List.map_nil]); (try simp [frzV, frzO, frzC, List.filter]); rfl)))
    ((iterate 1 (((with_reducible refine spl_step TT_ok PT85_ok (id := 0) (σ' := ?_) ?_ ?_); rotate_left; (focus (simp [*]; rfl))))))
    refine spl_nil ?_
    refine amStr (h := ?_)
    refine s_loop (J := fun k : {k : Nat // k ≤ P2} => ⟨107, [(2, .ptr 0 0 0), (4, .v (.bool false)), (5, .ptr 7 0 0), (6, aInts names), (8, .v (.int .i64 (cnt E P : Int))), (9, .v (.int .i64 (cnt F k.1 : Int))), (83, .v (.int .u64 (P2 : Int))), (84, .v (.int .u64 (k.1 : Int)))], [(0, ⟨24, 2, [[.v (.int .i64 (q : Int)), aRows T]]⟩), (7, ⟨24, 2, [[.v (.int .i64 (m : Int)), aRows U]]⟩)], [7, 0]⟩) (μ := fun k => P2 - k.1) ⟨0, Nat.zero_le _⟩ ?_ (fun ⟨k, hk2⟩ => ?_)
    · have hc0 : cnt F 0 = 0 := rfl
      (refine weak_id rfl ?_ ?_ <;> ((try simp only [List.mem_cons, List.not_mem_nil, or_false, forall_eq_or_imp, forall_eq]); (try simp (disch := omega) [i64w, *])))
      all_goals rfl
    have hfl := cnt_le F k
    have hfs := cnt_succ F k
    have hwk : IntKind.u64.wrap ((k : Int) + 1) = (k : Int) + 1 := u64w (by omega) (by omega)
    refine amGo PT85_ok (h := ?_)
    (focus ((with_reducible refine sp_cond (b := ?_) ?_ (fun hc => ?_) (fun hc => ?_)); rotate_left; (focus (first | rfl | (simp [lk, AS.ev]; rfl))); all_goals (try simp at hc)))
    · have hkk := hc
      clear hc
      have hset := toSet_nat (k := k) (by omega)
      have hwc : IntKind.i64.wrap ((cnt F k : Int) + 1) = (cnt F k : Int) + 1 := i64w (by omega) (by omega)
      cases hEb : F k
      · rw [hEb] at hfs
        simp only [Bool.false_eq_true, if_false, Nat.add_zero] at hfs
        refine amGo PT85_ok (h := ?_)
        refine k_lp (⟨k + 1, by omega⟩ : {k : Nat // k ≤ P2}) (by dsimp only; omega) ?_
        (refine weak_id rfl ?_ ?_ <;> ((try simp only [List.mem_cons, List.not_mem_nil, or_false, forall_eq_or_imp, forall_eq]); (try simp (disch := omega) [i64w, *])))
      · rw [hEb] at hfs
        simp only [if_true] at hfs
        refine amGo PT85_ok (h := ?_)
        refine k_lp (⟨k + 1, by omega⟩ : {k : Nat // k ≤ P2}) (by dsimp only; omega) ?_
        (refine weak_id rfl ?_ ?_ <;> ((try simp only [List.mem_cons, List.not_mem_nil, or_false, forall_eq_or_imp, forall_eq]); (try simp (disch := omega) [i64w, *])))
    · obtain rfl : P2 = k := by omega
      clear hc hfs hwk
      obtain ⟨CE, hCE⟩ : ∃ CE, cnt E P = CE := ⟨_, rfl⟩
      obtain ⟨CF, hCF⟩ : ∃ CF, cnt F P2 = CF := ⟨_, rfl⟩
      have hcnt := hcH.h
      rw [hCE, hCF] at hcnt
      rw [hCE, hCF]
      rw [hCE] at hcl
      rw [hCF] at hfl
      have hqm : IntKind.i64.wrap ((q : Int) - m) = ((q - m : Nat) : Int) := by rw [i64w (by omega) (by omega)]; omega
      have hqmu : IntKind.u64.wrap ((q - m : Nat) : Int) = ((q - m : Nat) : Int) := u64w (by omega) (by omega)
      have hfin : IntKind.i64.wrap ((CF : Int) * 2 ^ min (q - m) IntKind.i64.bits) = (CE : Int) := by
        rw [show min (q - m) IntKind.i64.bits = q - m from by have : IntKind.i64.bits = 64 := rfl; omega, hcnt]
        have e : (CF : Int) * 2 ^ (q - m) = ((2 ^ (q - m) * CF : Nat) : Int) := by push_cast; rw [Int.mul_comm]
        rw [e]
        exact i64w (by omega) (by omega)
      obtain ⟨D, hD⟩ : ∃ D, q - m = D := ⟨_, rfl⟩
      rw [hD] at hqm hqmu hfin
      clear hcnt hCE hCF hcH
      refine amStr (h := ?_)
      refine s_regionL ?_
      ((iterate 6 (((with_reducible refine spl_step TT_ok PT85_ok (id := 0) (σ' := ?_) ?_ ?_); rotate_left; (focus (simp [*]; rfl))))))
      ((iterate 2 (((with_reducible refine spl_step TT_ok PT85_ok (id := 0) (σ' := ?_) ?_ ?_); rotate_left; (focus (simp [*]; rfl))))))
      ((iterate 1 (((with_reducible refine spl_step TT_ok PT85_ok (id := 0) (σ' := ?_) ?_ ?_); rotate_left; (focus (simp [*]; rfl))))))
      (refine spl_eq (τ := ?_) ?_ ?_; rotate_left; (focus ((try simp only [AS.frz, List.map_cons, List.map_nil]); (try simp [frzV, frzO, frzC, List.filter]); rfl)))
      ((iterate 5 (((with_reducible refine spl_step TT_ok PT85_ok (id := 0) (σ' := ?_) ?_ ?_); rotate_left; (focus (simp [*]; rfl))))))
      refine spl_nil ?_
      refine amStr (h := ?_)
      ((refine post_ret (av := ?_) (by first | exact .inl rfl | exact .inr rfl) (show (Tryd.f6).results.toList = _ from by rw [Tryd.results6]) ?_ ?_); rotate_left; (focus (simp [retA, retL, ret1, lk, st, ldA, AV.cell]; rfl)); (try simp [*]))
theorem canonCounts_p (N : Int) (L : List (List Int)) (n : Int) (hN : okI N = true) (hL : okLens L = true) (hn0 : 0 ≤ n) (hn1 : n ≤ 255) : FnPure Tryd.prog 6 [aTh N L, .v (.int .u8 n)] (.v (.bool true)) := by
  by_cases hl : lightB L = true
  · exact counts_ok N L n hN (light_rows hL hl) hl hn0 hn1
  · unfold aTh
    refine fn_sp TT_ok Tryd.func6 (c := _) rfl (by simp [Tryd.ntmps6]) (fun B hI0 hro => ?_)
    rw [Tryd.ntmps6]
    simp only [enumA]
    refine amGo PT85_ok (h := ?_)
    ((refine post_ret (av := ?_) (by first | exact .inl rfl | exact .inr rfl) (show (Tryd.f6).results.toList = _ from by rw [Tryd.results6]) ?_ ?_); rotate_left; (focus (simp [retA, retL, ret1, lk, st, ldA, AV.cell]; rfl)); (try simp [*]))
namespace canonCounts
set_option maxRecDepth 100000
theorem contract (H : Type) (enc : TypeId × Value → H) (W : World) (base : Nat) (args : Array Value) (ds gs : List (DataW H)) (before : List MemPlace)
    (hval0 : ∀ (j : Nat) t v, (Go.Proofs.Tryd.f6).params[j]? = some t → args[j]? = some v → Value.okWide Tryd.prog W .any base t v)
    (hW : DataW.Whole enc Tryd.prog (Go.Proofs.Tryd.f6).params.toList Rows.canonCountsSpec.vars false W args.toList ds gs before) (hL : laidMetH Tryd.prog Rows.canonCountsRow.laid W) :
    Calls Tryd.prog 6 args W fun e W' => ∃ v, e = .returned v ∧ Rows.canonCountsSpec.post enc Tryd.prog Go.Proofs.Tryd.f6 false true false false W args v W' := by
  have hval : ∀ (j : Nat) t v, (Go.Proofs.Tryd.f6).params[j]? = some t → args[j]? = some v → Value.okWide Tryd.prog W .any base t v := hval0
  have hW2 := hW
  obtain ⟨p, q, hA0, hV, _, _, _⟩ := hW
  have hA : DataW.TrodAll enc Tryd.prog W 0 (fun _ => true) true (Go.Proofs.Tryd.f6).params.toList args.toList ds p := hA0
  rw [Tryd.params6] at hA hval
  clear hA0 hval0
  obtain ⟨rfl, _⟩ := trodVars_none hV
  obtain ⟨v0, vs0, d0, ds0, p0, q0, hargs, rfl, _, h0, r0⟩ := trodAll_cons hA
  obtain ⟨v1, vs1, d1, ds1, p1, q1, rfl, rfl, _, h1, r1⟩ := trodAll_cons r0
  obtain ⟨rfl, rfl, _⟩ := trodAll_nil r1
  obtain rfl : args = #[v0, v1] := by cases args; simp_all
  obtain ⟨N, L, ra0, oN0, oL0⟩ := arg_th (hval 0 _ v0 rfl rfl) h0
  obtain ⟨n, ra1, l1, u1⟩ := arg_u8 (hval 1 _ v1 rfl rfl) h1
  refine law_of_pure (glob_of_laid hL) (avs := [.agg [.v (.int .i64 N), aRows L], .v (.int .u8 n)]) (by kernel_rfl) hW2 rfl (rec_ok (by kernel_rfl)) (tb := 4) rfl Tryd.underlying4 rfl rfl rfl rfl (fun i hi => ?_) (canonCounts_p N L n oN0 oL0 l1 u1)
  match i, hi with
  | 0, _ => exact ra0
  | 1, _ => exact ra1
theorem laid_met (os : Os) : laidMet Tryd.prog Rows.canonCountsRow.laid ((laidWorld os).forCall (fun _ _ => 0) ⟨#[], #[.agg #[.int .i64 0, .slice none 0 0], .int .u8 0], []⟩).memory :=
  laidMet_of_run' 8 (by kernel_rfl) (by kernel_rfl)
theorem lifted (os : Os) (started : os.Started) (H : Type) (enc : TypeId × Value → H) (F : Stop.Interp) :
    ReturnsInHanded {} Tryd.checked os 6 .any ((OpenSpec.ofChange Rows.canonCountsSpec).preRow enc Tryd.prog Go.Proofs.Tryd.f6 Rows.canonCountsRow.domain false Rows.canonCountsRow.laid) (((OpenSpec.ofChange Rows.canonCountsSpec).at F).post enc Tryd.prog Go.Proofs.Tryd.f6 false true false false) := by
  refine returnsInHanded_of_row (C := Tryd.checked) (s := OpenSpec.ofChange Rows.canonCountsSpec) (by kernel_rfl) started (by kernel_rfl) Tryd.func6
    (witness_row_at (enc := enc) (C := Tryd.checked) false (laidWorld os) #[.agg #[.int .i64 0, .slice none 0 0], .int .u8 0] rfl (by kernel_rfl) (by kernel_rfl) (by kernel_rfl)
      (OpenSpec.preRow_of_cond 8 (show DataW.whole enc Tryd.prog ((laidWorld os).forCall (fun _ _ => 0) ⟨#[], #[.agg #[.int .i64 0, .slice none 0 0], .int .u8 0], []⟩).memory (Go.Proofs.Tryd.f6).params.toList Rows.canonCountsSpec.vars false (#[.agg #[.int .i64 0, .slice none 0 0], .int .u8 0] : Array Value).toList 8 = some ([.agg [.lit (.int .i64 0), .nil], .lit (.int .u8 0)], [], []) by kernel_rfl) (by kernel_rfl) (fun k hk => by cases hk) (by kernel_rfl) (laid_met os))) ?_
  intro W base args ds gs before hval hW _ _ _ hL _ _
  exact contract H enc W base args ds gs before hval hW hL
theorem said : Rows.CanonCountsSaid :=
  OpenClaim.holds_of_cond 6 Go.Proofs.Tryd.f6 rfl rfl rfl rfl rfl rfl rfl ⟨rfl, rfl, rfl, rfl, rfl⟩ rfl rfl rfl rfl rfl (by kernel_rfl) Tryd.func6 (by kernel_rfl)
    (of_decide_eq_true (by kernel_rfl)) (by unfold Func.isWrapper; first | (rw [if_pos (by decide +kernel)]; kernel_rfl) | (rw [if_neg (by decide +kernel)]; exact ⟨rfl, rfl⟩))
    (fun os started H enc _ F => by rw [OpenClaim.pre_eq_preRow]; exact lifted os started H enc F)
theorem plain (f : FuncId) (fn : Func) (hf : Tryd.pinned.checked.prog.funcNamed "census/censuslaw17.CanonCounts" = some f) (hfn : Tryd.pinned.checked.prog.funcs[f]? = some fn) :
    false = Tryd.pinned.checked.prog.looks [] ∧ ∀ (j : Nat) t, fn.params[j]? = some t → Tryd.pinned.checked.prog.wantsStandIn t = false := by
  obtain rfl : f = 6 := Option.some.inj ((show Tryd.prog.funcNamed "census/censuslaw17.CanonCounts" = some 6 by kernel_rfl).symm.trans hf) |>.symm
  obtain rfl : fn = Go.Proofs.Tryd.f6 := (Option.some.inj (Tryd.func6.symm.trans hfn)).symm
  refine ⟨by kernel_rfl, fun j t ht => ?_⟩
  rw [Tryd.params6] at ht
  have hall : (Tryd.checked.prog.funcs[6]?).all (fun g => g.params.toList.all fun t => !(Tryd.checked.prog.wantsStandIn t)) = true := by kernel_rfl
  rw [show Tryd.checked.prog.funcs[6]? = some Go.Proofs.Tryd.f6 from Tryd.func6] at hall
  have h2 : ∀ t ∈ (Go.Proofs.Tryd.f6).params.toList, (!(Tryd.checked.prog.wantsStandIn t)) = true := List.all_eq_true.1 hall
  have hm : t ∈ (Go.Proofs.Tryd.f6).params.toList := by rw [Tryd.params6]; exact Array.mem_toList_iff.2 (Array.mem_of_getElem? ht)
  have h3 : Tryd.checked.prog.wantsStandIn t = false := by simpa using h2 t hm
  exact h3
theorem proved : Rows.CanonCountsCardSaid :=
  Claim7.holds_tied_plain_at .later [] _ _ _ _ said (fun _ h => by cases h) (by kernel_rfl) (fun _ h => by cases h) canonCounts_row_tie rfl ⟨rfl, rfl⟩ (by kernel_rfl) rfl plain (by kernel_rfl)
end canonCounts
end Go.Proofs.YtafikekndefjcaaDoor
