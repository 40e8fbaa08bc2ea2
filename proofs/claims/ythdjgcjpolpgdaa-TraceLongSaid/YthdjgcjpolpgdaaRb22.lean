/- The reference's bytes of claims: Number, Bytes, Encode; no condition. -/
import Derived.Test.YthdjgcjpolpgdaaEn22
import Derived.Test.YthdjgcjpolpgdaaWa
namespace Go.Proofs.Ythdjgcjpolpgdaa
set_option linter.unusedVariables false
set_option linter.unusedSimpArgs false
set_option linter.unusedSectionVars false
open Go.RowKit
attribute [local simp] List.getD_cons_zero List.getD_cons_succ List.getD_nil undef gvars runL runE effA stepA dstOk wantA core lk st dl AS.ev AS.evs AS.put AS.upd updO updI nxt cPick cAlloc cBox cBuild cBuildS cLoad cStore cNil plainOf cBin cNilS isNilS nilA cUn cConvX cConvB cConv bytesOf rowB cMake cSlice slA idxA cFA cF cIA cIX cIS cI cExt cLen cApp cMM cFun cCall lenA lenM isNilM nilM cNilM cMakeM hintB cMapK cLook foundR lookR cUpd putM cDel delM findA isKeyB Instr.sameNow AS.entry AS.bound AS.callee sc1 sc2 ixOk ldA AV.flat AV.cell AV.cells Value.oneCell' fillA spl chunk zeros AS.parts AS.rows AS.shut AS.shut1 AS.shut2 AS.shutL AS.shutM AV.ids idsL idsLL eqAll bndA AV.scalar AV.scalar1 AV.isV Ef.app Ef.pk ptOf pntO wrO wr
attribute [-simp] List.getD_eq_getElem?_getD
set_option maxRecDepth 100000
theorem within_B (b : List Int) : Within (.ref 0 0 b.length) [(0, bO b)] [0] := by
  refine ⟨fun k hk => by simpa [AV.ids, idsL] using hk, fun k ob hk => ?_⟩
  simp only [lk] at hk
  split at hk
  · cases hk
    exact ⟨by simp; omega, fun q hq => by rw [show idsLL (bO b).xs = [] from ids_bO b] at hq; cases hq⟩
  · cases hk
theorem number_small (n : Nat) (h128 : n < 128) : FnObj Try.prog 84 [.v (.int .i64 (n : Int))] (.ref 0 0 (numB n).length) [(0, bO (numB n))] [0] := by
  refine fn_obj TT_ok Try.func84 (c := _) rfl (by simp [Try.ntmps84]) (within_B _) (fun B hI0 hro => ?_)
  rw [Try.ntmps84]
  simp only [enumA]
  have h1 : (n : Int) < 128 := by omega
  have hu1 : IntKind.u8.wrap (n : Int) = (n : Int) := by rw [IntKind.wrap_u8]; omega
  rw [numB_lt h128]
  refine amStr (h := ?_)
  refine amReg PT71_ok (h := ?_)
  refine amStr (h := ?_)
  refine amReg PT71_ok (h := ?_)
  refine amStr (h := ?_)
  refine s_regionL ?_
  ((iterate 2 (((with_reducible refine spl_step TT_ok PT71_ok (id := 0) (σ' := ?_) ?_ ?_); rotate_left; (focus (simp [*]; rfl))))))
  (((with_reducible refine spl_step TT_ok PT71_ok (id := 40) (σ' := ?_) ?_ ?_); rotate_left; (focus (simp [*]; rfl))))
  ((iterate 1 (((with_reducible refine spl_step TT_ok PT71_ok (id := 0) (σ' := ?_) ?_ ?_); rotate_left; (focus (simp [*]; rfl))))))
  refine spl_nil ?_
  refine amStr (h := ?_)
  refine post_obj (av := .ref 40 0 1) (.inr rfl) (by rw [Try.results84]) ?_ (fun _ => 40) rfl (fun k ob hk => ?_) (fun k ob k' ob' hk hk' _ => ?_)
  · simp [retA, retL, ret1, lk, ldA, AV.cell]
  · simp only [lk] at hk
    split at hk <;> cases hk
    simp [lk, bO, renLL, renL, AV.ren]
  · simp only [lk] at hk hk'
    split at hk <;> cases hk
    split at hk' <;> cases hk'
    omega
set_option maxHeartbeats 1000000 in
theorem number_robj : ∀ (m n : Nat), n ≤ m → n < 4611686018427387904 → FnObj Try.prog 84 [.v (.int .i64 (n : Int))] (.ref 0 0 (numB n).length) [(0, bO (numB n))] [0] := by
  intro m
  induction m with
  | zero => intro n hnm hn; exact number_small n (by omega)
  | succ m ih =>
    intro n hnm hn
    by_cases h0 : n ≤ m
    · exact ih n h0 hn
    by_cases h128 : n < 128
    · exact number_small n h128
    refine fn_obj TT_ok Try.func84 (c := _) rfl (by simp [Try.ntmps84]) (within_B _) (fun B hI0 hro => ?_)
    rw [Try.ntmps84]
    simp only [enumA]
    have h1 : ¬ ((n : Int) < 128) := by omega
    have hr1 : Int.tmod (n : Int) 128 = ((n % 128 : Nat) : Int) := by rw [Int.tmod_eq_emod_of_nonneg (by omega)]; omega
    have hq1 : Int.tdiv (n : Int) 128 = ((n / 128 : Nat) : Int) := by rw [Int.tdiv_eq_ediv_of_nonneg (by omega)]; omega
    have hih := ih (n / 128) (by omega) (by omega)
    rw [numB_ge h128]
    obtain ⟨R, hR⟩ : ∃ R : Nat, n % 128 = R := ⟨_, rfl⟩
    obtain ⟨Z, hZ⟩ : ∃ Z : Nat, n / 128 = Z := ⟨_, rfl⟩
    have hR2 : R < 128 := by omega
    have hzl : (numB Z).length ≤ 9 := numB_len9 (by omega)
    have hzp := numB_pos Z
    have hzl2 : ((numB Z).map fun x => [AV.v (.int .u8 x)]).length = (numB Z).length := List.length_map _
    rw [hR] at hr1 ⊢
    rw [hZ] at hq1 hih ⊢
    have hw1 : IntKind.i64.wrap ((R : Int) + 128) = (R : Int) + 128 := i64w (by omega) (by omega)
    have hu1 : IntKind.u8.wrap ((R : Int) + 128) = (R : Int) + 128 := by rw [IntKind.wrap_u8]; omega
    have hlen : (((R + 128 : Nat) : Int) :: numB Z).length = 1 + (numB Z).length := by rw [List.length_cons]; omega
    rw [hlen]
    have hwZ : IntKind.i64.wrap (Z : Int) = (Z : Int) := i64w (by omega) (by omega)
    clear hR
    refine amStr (h := ?_)
    refine amReg PT71_ok (h := ?_)
    refine amStr (h := ?_)
    refine amReg PT71_ok (h := ?_)
    refine amStr (h := ?_)
    refine s_regionL ?_
    ((iterate 4 (((with_reducible refine spl_step TT_ok PT71_ok (id := 0) (σ' := ?_) ?_ ?_); rotate_left; (focus (simp [*]; rfl))))))
    (((with_reducible refine spl_step TT_ok PT71_ok (id := 40) (σ' := ?_) ?_ ?_); rotate_left; (focus (simp [*]; rfl))))
    ((iterate 2 (((with_reducible refine spl_step TT_ok PT71_ok (id := 0) (σ' := ?_) ?_ ?_); rotate_left; (focus (simp [*]; rfl))))))
    refine spl_obj hih 1000 (by simp) rfl rfl (enters_ok (avs := [.v (.int .i64 (Z : Int))]) (cs := []) rfl (by kernel_rfl) rfl rfl) (by simp [idsL, AV.ids]) (fun c h => by cases h) ?_
    simp only [bO, shO, List.map_cons, List.map_nil, d_renLL_b, AV.ren, Nat.zero_add, List.cons_append, List.nil_append]
    (refine spl_eq (τ := ?_) ?_ ?_; rotate_left; (focus ((try simp only [AS.frz, List.map_cons, List.map_nil]); (try simp [frzV, frzO, frzC, List.filter]); rfl)))
    have hcap : 1 + (numB Z).length ≤ 140737488355328 := by omega
    (((with_reducible refine spl_step TT_ok PT71_ok (id := 41) (σ' := ?_) ?_ ?_); rotate_left; (focus (simp [*]; rfl))))
    ((iterate 1 (((with_reducible refine spl_step TT_ok PT71_ok (id := 0) (σ' := ?_) ?_ ?_); rotate_left; (focus (simp [*]; rfl))))))
    refine spl_nil ?_
    refine amStr (h := ?_)
    refine post_obj (av := .ref 41 0 (1 + (numB Z).length)) (.inr rfl) (by rw [Try.results84]) ?_ (fun _ => 41) rfl (fun k ob hk => ?_) (fun k ob k' ob' hk hk' _ => ?_)
    · simp [retA, retL, ret1, lk, ldA, AV.cell]
    · simp only [lk] at hk
      split at hk <;> cases hk
      simp [lk, bO, renLL, renL, AV.ren]
    · simp only [lk] at hk hk'
      split at hk <;> cases hk
      split at hk' <;> cases hk'
      omega
theorem r2Num_p (n : Int) (hk : decide (0 ≤ n) = true ∧ decide (n < 4611686018427387904) = true) : FnPure Try.prog 84 [.v (.int .i64 n)] (aB (numB n.toNat)) := by
  rw [decide_eq_true_eq, decide_eq_true_eq] at hk
  have e : ((n.toNat : Nat) : Int) = n := by omega
  have h := number_robj n.toNat n.toNat (Nat.le_refl _) (by omega)
  rw [e] at h
  exact obj_pure h (fun B G n w a v T hr hT hv => read_bytes hr hT (k := 0) (by simp [lk]) hv)
@[simp] def g_r2Num : List AV → Option (AV × Bool)
  | [.v (.int .i64 n)] => if (okI n && (decide (0 ≤ n) && decide (n < 4611686018427387904))) = true then some (aB (numB n.toNat), false) else none
  | _ => none
theorem e_r2Num : EntOk Try.prog 84 g_r2Num := ent_pure (by kernel_rfl) fun args r fr h => by
  unfold g_r2Num at h
  split at h
  · rename_i n
    split at h
    · rename_i hc
      simp only [Bool.and_eq_true] at hc
      obtain ⟨o0, hk⟩ := hc
      cases h
      exact ⟨FnPure.cov (r2Num_p n hk) (.cons (Cov.refl _) .nil), rfl⟩
    · cases h
  · cases h

def l110 : List (FuncId × (List AV → Option (AV × Bool))) :=
  (84, g_r2Num) :: l71
theorem l110_ok : ∀ p ∈ l110, EntOk Try.prog p.1 p.2 := ent_cons e_r2Num (l71_ok)
def PT110 : PTab := tab l110
theorem PT110_ok : PTok Try.prog PT110 := tab_ok l110_ok
@[simp] theorem PT110_litVar : PT110 32 = g_litVar := rfl
@[simp] theorem PT110_litValid : PT110 77 = g_litValid := rfl
@[simp] theorem PT110_contains : PT110 50 = g_contains := rfl
@[simp] theorem PT110_check : PT110 46 = g_check := rfl
@[simp] theorem PT110_with : PT110 33 = g_with := rfl
@[simp] theorem PT110_without : PT110 31 = g_without := rfl
@[simp] theorem PT110_all : PT110 30 = g_all := rfl
@[simp] theorem PT110_rValid : PT110 71 = g_rValid := rfl
@[simp] theorem PT110_rCheck : PT110 42 = g_rCheck := rfl
@[simp] theorem PT110_litvalid : PT110 85 = g_litvalid := rfl
@[simp] theorem PT110_opposite : PT110 87 = g_opposite := rfl
@[simp] theorem PT110_clone : PT110 99 = g_clone := rfl
@[simp] theorem PT110_order : PT110 86 = g_order := rfl
@[simp] theorem PT110_term : PT110 69 = g_term := rfl
@[simp] theorem PT110_clause : PT110 57 = g_clause := rfl
@[simp] theorem PT110_equal : PT110 61 = g_equal := rfl
@[simp] theorem PT110_distinct : PT110 60 = g_distinct := rfl
@[simp] theorem PT110_normal : PT110 27 = g_normal := rfl
@[simp] theorem PT110_rContains : PT110 74 = g_rContains := rfl
@[simp] theorem PT110_rSameInts : PT110 52 = g_rSameInts := rfl
@[simp] theorem PT110_rAbs : PT110 114 = g_rAbs := rfl
@[simp] theorem PT110_rBefore : PT110 97 = g_rBefore := rfl
@[simp] theorem PT110_rSorted : PT110 75 = g_rSorted := rfl
@[simp] theorem PT110_rPut : PT110 76 = g_rPut := rfl
@[simp] theorem PT110_rNormal : PT110 45 = g_rNormal := rfl
@[simp] theorem PT110_place : PT110 62 = g_place := rfl
@[simp] theorem PT110_vHas : PT110 34 = g_vHas := rfl
@[simp] theorem PT110_vMinus : PT110 90 = g_vMinus := rfl
@[simp] theorem PT110_vCut : PT110 29 = g_vCut := rfl
@[simp] theorem PT110_vSub : PT110 65 = g_vSub := rfl
@[simp] theorem PT110_litHolds : PT110 64 = g_litHolds := rfl
@[simp] theorem PT110_litAny : PT110 36 = g_litAny := rfl
@[simp] theorem PT110_thEval : PT110 37 = g_thEval := rfl
@[simp] theorem PT110_rSame : PT110 22 = g_rSame := rfl
@[simp] theorem PT110_rTerm : PT110 73 = g_rTerm := rfl
@[simp] theorem PT110_thVars : PT110 35 = g_thVars := rfl
@[simp] theorem PT110_light : PT110 13 = g_light := rfl
@[simp] theorem PT110_r2Formed : PT110 43 = g_r2Formed := rfl
@[simp] theorem PT110_r2In : PT110 51 = g_r2In := rfl
@[simp] theorem PT110_r2Same : PT110 23 = g_r2Same := rfl
@[simp] theorem PT110_r2Var : PT110 72 = g_r2Var := rfl
@[simp] theorem PT110_trLight : PT110 14 = g_trLight := rfl
@[simp] theorem PT110_trGood : PT110 47 = g_trGood := rfl
@[simp] theorem PT110_r2Num : PT110 84 = g_r2Num := rfl
end Go.Proofs.Ythdjgcjpolpgdaa
