/- censusref23.Needed; no condition. -/
import Derived.Test.YtllkogdgmmcfgaaGreatDoorVy23
import Derived.Test.YtllkogdgmmcfgaaGreatDoorWl
namespace Go.Proofs.YtllkogdgmmcfgaaGreatDoor
set_option linter.unusedVariables false
set_option linter.unusedSimpArgs false
set_option linter.unusedSectionVars false
open Go.RowKit
open Wlk
attribute [-simp] List.getD_eq_getElem?_getD
set_option maxRecDepth 100000
theorem inp_nat (ns : List Nd) (K : Int) (m : Nat) : inpI ns K (m : Int) = inpB ns K m := rfl
set_option maxHeartbeats 4000000 in
theorem needed_p (M : Int) (ns : List Nd) (m : Nat) (hM : okI M = true) (hns : okNs ns = true) (hm : m < ns.length) : FnPure Tryz.prog 19 [aNet M ns, .v (.int .i64 (m : Int))] (.v (.bool (nedB ns m))) := by
 have hnl := okNs_len hns
 have hmo : okI (m : Int) = true := okI_iff.2 ⟨by omega, by omega⟩
 have h3 : okI 3 = true := rfl
 have hmi : (m : Int) < (ns.length : Int) := by omega
 have hget := nds_get hm
 have hw1 : IntKind.i64.wrap ((ns.length : Int) - 1) = (ns.length : Int) - 1 := i64w (by omega) (by omega)
 have hin := inp_nat ns 3 m
 have hned : nedB ns m = (decide (m = ns.length - 1) || (inpB ns 3 m && !decide (kindQ ns m = 2))) := rfl
 have hkq : kindQ ns m = (ns.getD m nd0).1 := rfl
 rw [hkq] at hned
 obtain ⟨K, hK⟩ : ∃ K, (ns.getD m nd0).1 = K := ⟨_, rfl⟩
 obtain ⟨B0, hB⟩ : ∃ B, (ns.getD m nd0).2.1 = B := ⟨_, rfl⟩
 obtain ⟨is, his⟩ : ∃ is, (ns.getD m nd0).2.2 = is := ⟨_, rfl⟩
 rw [hK] at hned
 rw [hK, hB, his] at hget
 obtain ⟨b, hb⟩ : ∃ b, inpB ns 3 m = b := ⟨_, rfl⟩
 rw [hb] at hin hned
 clear hkq hK hB his hb
 rw [hned]
 clear hned
 unfold aNet aNds
 by_cases h1 : m = ns.length - 1
 ·have h1b : ((m : Int) == (ns.length : Int) - 1) = true := by rw [beq_iff_eq]; omega
  rw [decide_eq_true h1, Bool.true_or]
  clear h1
  refine fn_sp TT_ok Tryz.func19 (c := _) rfl (by simp [Tryz.ntmps19]) (fun B hI0 hro => ?_)
  rw [Tryz.ntmps19]
  simp only [enumA]
  refine amGo PT220_ok (h := ?_)
  (refine amRt Tryz.results19 (h := ?_); try simp [*])
 ·have h1b : ((m : Int) == (ns.length : Int) - 1) = false := by rw [beq_eq_false_iff_ne]; omega
  rw [decide_eq_false h1, Bool.false_or]
  clear h1
  by_cases h2 : K = 2
  ·subst h2
   rw [decide_eq_true rfl, Bool.not_true, Bool.and_false]
   refine fn_sp TT_ok Tryz.func19 (c := _) rfl (by simp [Tryz.ntmps19]) (fun B hI0 hro => ?_)
   rw [Tryz.ntmps19]
   simp only [enumA]
   refine amGo PT220_ok (h := ?_)
   (refine amRt Tryz.results19 (h := ?_); try simp [*])
  ·have h2b : (K != 2) = true := by simpa using h2
   rw [decide_eq_false h2, Bool.not_false, Bool.and_true]
   clear h2
   cases b
   ·refine fn_sp TT_ok Tryz.func19 (c := _) rfl (by simp [Tryz.ntmps19]) (fun B hI0 hro => ?_)
    rw [Tryz.ntmps19]
    simp only [enumA]
    refine amGo PT220_ok (h := ?_)
    (refine amRt Tryz.results19 (h := ?_); try simp [*])
   ·refine fn_sp TT_ok Tryz.func19 (c := _) rfl (by simp [Tryz.ntmps19]) (fun B hI0 hro => ?_)
    rw [Tryz.ntmps19]
    simp only [enumA]
    refine amGo PT220_ok (h := ?_)
    (refine amRt Tryz.results19 (h := ?_); try simp [*])
@[simp] def g_r23Ned : List AV → Option (AV × Bool)
 | [.agg [.v (.int .i64 M), a0], .v (.int .i64 j)] => (match toNds a0 with | some ns => if (okI M && okNs ns && okI j && (decide (0 ≤ j) && decide (j < (ns.length : Int)))) = true then some (.v (.bool (nedB ns j.toNat)), false) else none | none => none)
 | _ => none
theorem e_r23Ned : EntOk Tryz.prog 19 g_r23Ned := ent_pure (by kernel_rfl) fun args r fr h => by
 unfold g_r23Ned at h
 split at h
 ·rename_i M a0 j
  split at h
  ·rename_i ns t0
   split at h
   ·rename_i hc
    simp only [Bool.and_eq_true] at hc
    obtain ⟨⟨⟨m0, o0⟩, o1⟩, hk⟩ := hc
    cases h
    exact ⟨FnPure.cov (by obtain ⟨m, rfl⟩ := Int.eq_ofNat_of_zero_le (of_decide_eq_true hk.1); exact needed_p M ns m m0 o0 (by have := of_decide_eq_true hk.2; omega)) (.cons (cov_th _ (cov_nds t0)) (.cons (Cov.refl _) .nil)), rfl⟩
   ·cases h
  ·cases h
 ·cases h

def l221 : List (FuncId × (List AV → Option (AV × Bool))) :=
 (19, g_r23Ned) :: l220
theorem l221_ok : ∀ p ∈ l221, EntOk Tryz.prog p.1 p.2 := ent_cons e_r23Ned (l220_ok)
def PT221 : PTab := tab l221
theorem PT221_ok : PTok Tryz.prog PT221 := tab_ok l221_ok
@[simp] theorem PT221_r23Ned : PT221 19 = g_r23Ned := rfl
@[simp] theorem PT221_old (f : FuncId) (h : decide (f ≠ 19) = true) : PT221 f = PT220 f := tab_old (of_decide_eq_true h)
end Go.Proofs.YtllkogdgmmcfgaaGreatDoor
