/- (censusref23.Proof).residual; no condition. -/
import Derived.Test.YtllkogdgmmcfgaaGreatDoorRh23
import Derived.Test.YtllkogdgmmcfgaaGreatDoorWl
namespace Go.Proofs.YtllkogdgmmcfgaaGreatDoor
set_option linter.unusedVariables false
set_option linter.unusedSimpArgs false
set_option linter.unusedSectionVars false
open Go.RowKit
open Wlk
attribute [-simp] List.getD_eq_getElem?_getD
set_option maxRecDepth 100000
def aPrg (N : Int) (L : List (List Int)) (ns : List Nd) (cl : List Cl) : AV := .agg [.v (.int .i64 N), aRows L, .v (.int .i64 N), aNds ns, aCls cl]
theorem cov_prg {N M : Int} {a b c : AV} {L : List (List Int)} {ns : List Nd} {cl : List Cl} (e : decide (M = N) = true) (h1 : toRows a = some L) (h2 : toNds b = some ns) (h3 : toCls c = some cl) : Cov (.agg [.v (.int .i64 N), a, .v (.int .i64 M), b, c]) (aPrg N L ns cl) := fun S v hv => by
 have := of_decide_eq_true e
 subst this
 cases hv with
 | agg _ us hl g1 g2 =>
  refine .agg _ us hl g1 fun i hi => ?_
  match i, hi with
  | 0, hi => exact g2 0 (by simp)
  | 1, hi => exact cov_rows h1 S _ (g2 1 (by simp))
  | 2, hi => exact g2 2 (by simp)
  | 3, hi => exact cov_nds h2 S _ (g2 3 (by simp))
  | 4, hi => exact cov_cls h3 S _ (g2 4 (by simp))
def resP (N : Int) : Option (List (List Int)) → AV
 | some r => .tup [.agg [.v (.int .i64 N), aRows r], .v (.bool true)]
 | none => .tup [.agg [.v (.int .i64 0), .v (.slice none 0 0)], .v (.bool false)]
set_option maxHeartbeats 4000000 in
theorem rres_p (N : Int) (L : List (List Int)) (ns : List Nd) (cl : List Cl) (m : Nat) (hp : Prf N L ns cl) (hm : m < ns.length) : FnPure Tryz.prog 32 [aPrg N L ns cl, .v (.int .i64 (m : Int))] (resP N (rsV L N (clN cl (m : Int)))) := by
 have hN := hp.hN
 have hL := hp.hL
 have hLl := okRows_len hL
 have hcl := okCl_len hp.hcl
 have hmc : m < cl.length := by rw [hp.hlen]; exact hm
 have hmi : (m : Int) < (cl.length : Int) := by omega
 have hget := cls_get hmc
 obtain ⟨c1, c2⟩ := okCl_at hp.hcl (cl_mem hmc)
 have hcn : clN cl (m : Int) = cl.getD m ([], []) := rfl
 rw [hcn]
 unfold rsV
 obtain ⟨ts, hts⟩ : ∃ ts, (cl.getD m ([], [])).1 = ts := ⟨_, rfl⟩
 obtain ⟨cs, hcs⟩ : ∃ cs, (cl.getD m ([], [])).2 = cs := ⟨_, rfl⟩
 rw [hts] at c1
 rw [hcs] at c2
 rw [hts, hcs] at hget ⊢
 have hz := hp.hz
 clear hts hcs hcn
 unfold aPrg aCls
 cases hg : goodB N L.length ts cs
 ·have hA : resA N L ts cs = .tup [.agg [.v (.int .i64 0), .v (.slice none 0 0)], .v (.int .i64 1)] := by unfold resA; rw [if_neg (by rw [hg]; simp)]
  rw [if_neg (by decide)]
  unfold resP
  clear hp hz
  refine fn_sp TT_ok Tryz.func32 (c := _) rfl (by simp [Tryz.ntmps32]) (fun B hI0 hro => ?_)
  rw [Tryz.ntmps32]
  simp only [enumA]
  refine amStr (h := ?_)
  refine amReg PT241_ok (h := ?_)
  refine amStr (h := ?_)
  refine amDrs PT241_ok (h := ?_)
  refine amGo PT241_ok (h := ?_)
  (refine amRt Tryz.results32 (h := ?_); try simp [*])
 ·have hA : resA N L ts cs = .tup [.agg [.v (.int .i64 N), aRows (rsdL L ts cs)], .v (.int .i64 0)] := by unfold resA; rw [if_pos ⟨hz, hg⟩]; rfl
  rw [if_pos rfl]
  have hxo := okRows_check (res_check hz hg)
  generalize rsdL L ts cs = X at hA hxo ⊢
  unfold resP
  clear hp hz
  refine fn_sp TT_ok Tryz.func32 (c := _) rfl (by simp [Tryz.ntmps32]) (fun B hI0 hro => ?_)
  rw [Tryz.ntmps32]
  simp only [enumA]
  refine amStr (h := ?_)
  refine amReg PT241_ok (h := ?_)
  refine amStr (h := ?_)
  refine amDrs PT241_ok (h := ?_)
  refine amGo PT241_ok (h := ?_)
  (refine amRt Tryz.results32 (h := ?_); try simp [*])
@[simp] def g_r23Res : List AV → Option (AV × Bool)
 | [.agg [.v (.int .i64 N), a0, .v (.int .i64 N'), b0, c0], .v (.int .i64 j)] => (match toRows a0 with | some L => (match toNds b0 with | some ns => (match toCls c0 with | some cl => if (decide (N' = N) && prfB N L ns cl && okI j && (decide (0 ≤ j) && decide (j < (ns.length : Int)))) = true then some (resP N (rsV L N (clN cl j)), false) else none | none => none) | none => none) | none => none)
 | _ => none
theorem e_r23Res : EntOk Tryz.prog 32 g_r23Res := ent_pure (by kernel_rfl) fun args r fr h => by
 unfold g_r23Res at h
 split at h
 ·rename_i N a0 N' b0 c0 j
  split at h
  ·rename_i L t0
   split at h
   ·rename_i ns s0
    split at h
    ·rename_i cl w0
     split at h
     ·rename_i hc
      simp only [Bool.and_eq_true] at hc
      obtain ⟨⟨⟨e0, o0⟩, o1⟩, hk⟩ := hc
      cases h
      exact ⟨FnPure.cov (by obtain ⟨m, rfl⟩ := Int.eq_ofNat_of_zero_le (of_decide_eq_true hk.1); have e1 := of_decide_eq_true e0; subst e1; exact rres_p _ L ns cl m (prf_of o0) (by have := of_decide_eq_true hk.2; omega)) (.cons (cov_prg e0 t0 s0 w0) (.cons (Cov.refl _) .nil)), rfl⟩
     ·cases h
    ·cases h
   ·cases h
  ·cases h
 ·cases h

def l242 : List (FuncId × (List AV → Option (AV × Bool))) :=
 (32, g_r23Res) :: l241
theorem l242_ok : ∀ p ∈ l242, EntOk Tryz.prog p.1 p.2 := ent_cons e_r23Res (l241_ok)
def PT242 : PTab := tab l242
theorem PT242_ok : PTok Tryz.prog PT242 := tab_ok l242_ok
@[simp] theorem PT242_r23Res : PT242 32 = g_r23Res := rfl
@[simp] theorem PT242_old (f : FuncId) (h : decide (f ≠ 32) = true) : PT242 f = PT241 f := tab_old (of_decide_eq_true h)
end Go.Proofs.YtllkogdgmmcfgaaGreatDoor
