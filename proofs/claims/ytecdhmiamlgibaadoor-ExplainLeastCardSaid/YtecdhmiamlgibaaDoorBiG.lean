/- The table of a net and an assignment: open; Biased; no condition. -/
import Derived.Test.YtecdhmiamlgibaaDoorTq39
import Derived.Test.YtecdhmiamlgibaaDoorWl
/- Bi39: The table of a net and an assignment: open; Biased; no condition. -/
namespace Go.Proofs.YtecdhmiamlgibaaDoor
set_option linter.unusedVariables false
set_option linter.unusedSimpArgs false
set_option linter.unusedSectionVars false
open Go.RowKit
open Wlk
attribute [-simp] List.getD_eq_getElem?_getD
set_option maxRecDepth 100000
@[simp ↓ high] theorem d_ids_aBools (l : List Bool) : (aBools l).ids = [] := by unfold aBools; simp only [AV.ids]; exact d_ids_bools l
abbrev subB (a : BitVec 128) (N : Int) : Bool := sSub a (sAll N)
def openR (N : Int) (ns : List Nd) (a : BitVec 128) : AV :=
 if (validN N ns && subB a N) = false then .tup [.v (.pointer none), .v (.int .i64 0), .v (.int .i64 1)]
 else if 16 < (matL ns).length then .tup [.v (.pointer none), .v (.int .i64 0), .v (.int .i64 2)]
 else .tup [aTab N (matL ns) (onL (matL ns) ns), .v (.int .i64 (idxN (matL ns) a : Int)), .v (.int .i64 0)]
theorem valid_N {N : Int} {ns : List Nd} (h : validN N ns = true) : 0 ≤ N ∧ N ≤ 128 := by
 unfold validN at h
 simp only [Bool.and_eq_true, decide_eq_true_eq] at h
 omega
theorem open_p (N : Int) (ns : List Nd) (a : BitVec 128) (hN : okI N = true) (h : okNs ns = true) : FnPure Tryd.prog 43 [aNet N ns, aSet a] (openR N ns a) := by
 have hl := okNs_len h
 unfold openR
 cases hv : validN N ns
 ·have he : errN N ns = 1 := by unfold errN; rw [hv]; rfl
  unfold aNet aNds aSet WV
  refine fn_sp TT_ok Tryd.func43 (c := _) rfl (by simp [Tryd.ntmps43]) (fun B hI0 hro => ?_)
  rw [Tryd.ntmps43]
  simp only [enumA]
  refine amStr (h := ?_)
  refine amReg PT149_ok (h := ?_)
  refine amStr (h := ?_)
  refine amDrw PT149_ok (h := ?_)
  refine amGo PT149_ok (h := ?_)
  (refine amRt Tryd.results43 (h := ?_); try simp [*])
 have he : errN N ns = 0 := by unfold errN; rw [hv]; rfl
 obtain ⟨n0, n1⟩ := valid_N hv
 rw [Bool.true_and]
 cases hs : subB a N
 ·unfold aNet aNds aSet WV
  refine fn_sp TT_ok Tryd.func43 (c := _) rfl (by simp [Tryd.ntmps43]) (fun B hI0 hro => ?_)
  rw [Tryd.ntmps43]
  simp only [enumA]
  refine amStr (h := ?_)
  refine amReg PT149_ok (h := ?_)
  refine amStr (h := ?_)
  refine amDrw PT149_ok (h := ?_)
  refine amGo PT149_ok (h := ?_)
  (refine amRt Tryd.results43 (h := ?_); try simp [*])
 rw [if_neg (by decide)]
 by_cases h16 : 16 < (matL ns).length
 ·rw [if_pos h16]
  have ht : tbdR N ns = .tup [.v (.pointer none), .v (.int .i64 2)] := by unfold tbdR; rw [hv, if_neg (by decide), if_pos h16]
  unfold aNet aNds aSet WV
  refine fn_sp TT_ok Tryd.func43 (c := _) rfl (by simp [Tryd.ntmps43]) (fun B hI0 hro => ?_)
  rw [Tryd.ntmps43]
  simp only [enumA]
  refine amStr (h := ?_)
  refine amReg PT149_ok (h := ?_)
  refine amStr (h := ?_)
  refine amDrw PT149_ok (h := ?_)
  refine amGo PT149_ok (h := ?_)
  (refine amRt Tryd.results43 (h := ?_); try simp [*])
 ·rw [if_neg h16]
  have ht : tbdR N ns = .tup [.pt [.v (.int .i64 N), aInts (matL ns), aBools (onL (matL ns) ns)], .v (.int .i64 0)] := by unfold tbdR; rw [hv, if_neg (by decide), if_neg h16]; rfl
  have hok := matL_ok (Nat.le_of_not_lt h16)
  unfold aNet aNds aTab aSet WV
  generalize matL ns = vs at ht hok ⊢
  generalize onL vs ns = on at ht ⊢
  refine fn_sp TT_ok Tryd.func43 (c := _) rfl (by simp [Tryd.ntmps43]) (fun B hI0 hro => ?_)
  rw [Tryd.ntmps43]
  simp only [enumA]
  refine amStr (h := ?_)
  refine amReg PT149_ok (h := ?_)
  refine amStr (h := ?_)
  refine amDrw PT149_ok (h := ?_)
  refine amGo PT149_ok (h := ?_)
  (refine amRt Tryd.results43 (h := ?_); try simp [*])
@[simp] def g_tOpen : List AV → Option (AV × Bool)
 | [.agg [.v (.int .i64 N), a0], a1] => (match toNds a0 with | some ns => (match toSet a1 with | some a => if (okI N && okNs ns) = true then some (openR N ns a, false) else none | none => none) | none => none)
 | _ => none
theorem e_tOpen : EntOk Tryd.prog 43 g_tOpen := ent_pure (by kernel_rfl) fun args r fr h => by
 unfold g_tOpen at h
 split at h
 ·rename_i N a0 a1
  split at h
  ·rename_i ns t0
   split at h
   ·rename_i a t1
    split at h
    ·rename_i hc
     simp only [Bool.and_eq_true] at hc
     obtain ⟨m0, o0⟩ := hc
     cases h
     exact ⟨FnPure.cov (open_p N ns a m0 o0) (.cons (cov_th _ (cov_nds t0)) (.cons (toSet_inv t1 ▸ Cov.refl _) .nil)), rfl⟩
    ·cases h
   ·cases h
  ·cases h
 ·cases h

def l150 : List (FuncId × (List AV → Option (AV × Bool))) :=
 (43, g_tOpen) :: l149
theorem l150_ok : ∀ p ∈ l150, EntOk Tryd.prog p.1 p.2 := ent_cons e_tOpen (l149_ok)
def PT150 : PTab := tab l150
theorem PT150_ok : PTok Tryd.prog PT150 := tab_ok l150_ok
@[simp] theorem PT150_tOpen : PT150 43 = g_tOpen := rfl
@[simp] theorem PT150_old (f : FuncId) (h : decide (f ≠ 43) = true) : PT150 f = PT149 f := tab_old (of_decide_eq_true h)
end Go.Proofs.YtecdhmiamlgibaaDoor
/- Bj39: Biased; no condition. -/
namespace Go.Proofs.YtecdhmiamlgibaaDoor
set_option linter.unusedVariables false
set_option linter.unusedSimpArgs false
set_option linter.unusedSectionVars false
open Go.RowKit
open Wlk
attribute [-simp] List.getD_eq_getElem?_getD
set_option maxRecDepth 100000
attribute [local simp] aBools
def tabF (ns : List Nd) (i : Nat) : Bool := (onL (matL ns) ns).getD i false
def biasB (ns : List Nd) (a p : BitVec 128) : Bool := chgB (tabF ns) (matL ns).length (idxN (matL ns) a) (idxN (matL ns) p)
def biasR (N : Int) (ns : List Nd) (a p : BitVec 128) : AV :=
 if (validN N ns && subB a N) = false then .tup [.v (.bool false), .v (.int .i64 1)]
 else if 16 < (matL ns).length then .tup [.v (.bool false), .v (.int .i64 2)]
 else .tup [.v (.bool (biasB ns a p)), .v (.int .i64 0)]
theorem onL_len (vs : List Int) (ns : List Nd) : (onL vs ns).length = 2 ^ vs.length := by unfold onL; simp
theorem biased_p (N : Int) (ns : List Nd) (a p : BitVec 128) (hN : okI N = true) (h : okNs ns = true) : FnPure Tryd.prog 20 [aNet N ns, aSet a, aSet p] (biasR N ns a p) := by
 have hl := okNs_len h
 unfold biasR
 cases hv : (validN N ns && subB a N)
 ·have he : openR N ns a = .tup [.v (.pointer none), .v (.int .i64 0), .v (.int .i64 1)] := by unfold openR; rw [if_pos hv]
  rw [if_pos rfl]
  unfold aNet aNds aSet WV
  refine fn_sp TT_ok Tryd.func20 (c := _) rfl (by simp [Tryd.ntmps20]) (fun B hI0 hro => ?_)
  rw [Tryd.ntmps20]
  simp only [enumA]
  refine amGo PT150_ok (h := ?_)
  (refine amRt Tryd.results20 (h := ?_); try simp [*])
 rw [if_neg (by decide)]
 by_cases h16 : 16 < (matL ns).length
 ·have he : openR N ns a = .tup [.v (.pointer none), .v (.int .i64 0), .v (.int .i64 2)] := by unfold openR; rw [if_neg (by rw [hv]; decide), if_pos h16]
  rw [if_pos h16]
  unfold aNet aNds aSet WV
  refine fn_sp TT_ok Tryd.func20 (c := _) rfl (by simp [Tryd.ntmps20]) (fun B hI0 hro => ?_)
  rw [Tryd.ntmps20]
  simp only [enumA]
  refine amGo PT150_ok (h := ?_)
  (refine amRt Tryd.results20 (h := ?_); try simp [*])
 ·rw [if_neg h16]
  have he : openR N ns a = .tup [.pt [.v (.int .i64 N), aInts (matL ns), aBools (onL (matL ns) ns)], .v (.int .i64 (idxN (matL ns) a : Int)), .v (.int .i64 0)] := by unfold openR; rw [if_neg (by rw [hv]; decide), if_neg h16]; rfl
  have hok := matL_ok (Nat.le_of_not_lt h16)
  have hon := onL_len (matL ns) ns
  have hi := idxN_lt (matL ns) a
  have hj := idxN_lt (matL ns) p
  have hcl := chgL_len (fun i => (onL (matL ns) ns).getD i false) (matL ns).length (idxN (matL ns) a)
  have hcg := chgL_get (f := fun i => (onL (matL ns) ns).getD i false) (at0 := idxN (matL ns) a) hj
  have hres : biasB ns a p = (chgL (fun i => (onL (matL ns) ns).getD i false) (matL ns).length (idxN (matL ns) a)).getD (idxN (matL ns) p) false := hcg.symm
  rw [hres]
  clear hcg hres
  generalize matL ns = vs at he hok hon hi hj hcl ⊢
  generalize onL vs ns = on at he hon hi hj hcl ⊢
  obtain ⟨x, hx⟩ : ∃ x, idxN vs a = x := ⟨_, rfl⟩
  obtain ⟨y, hy⟩ : ∃ y, idxN vs p = y := ⟨_, rfl⟩
  rw [hx] at hi hcl he ⊢
  rw [hy] at hj ⊢
  have hp2 : 2 ^ vs.length ≤ 65536 := Nat.pow_le_pow_right (n := 2) (by omega) (show vs.length ≤ 16 from (okV_vs hok).2)
  obtain ⟨L, hL⟩ : ∃ L, 2 ^ vs.length = L := ⟨_, rfl⟩
  rw [hL] at hp2
  rw [hL] at hi hj hon hcl
  generalize hU : chgL (fun i => on.getD i false) vs.length x = U at hcl ⊢
  have hi2 : (x : Int) < (L : Int) := by omega
  have hj2 : (y : Int) < (L : Int) := by omega
  have hjU : y < U.length := by omega
  have hox : okI (x : Int) = true := okI_iff.2 ⟨by omega, by omega⟩
  clear hx
  unfold aNet aNds aSet WV
  refine fn_sp TT_ok Tryd.func20 (c := _) rfl (by simp [Tryd.ntmps20]) (fun B hI0 hro => ?_)
  rw [Tryd.ntmps20]
  simp only [enumA]
  refine amStr (h := ?_)
  refine amReg PT150_ok (h := ?_)
  refine amStr (h := ?_)
  refine amReg PT150_ok (h := ?_)
  refine amStr (h := ?_)
  refine amReg PT150_ok (h := ?_)
  refine amStr (h := ?_)
  refine amDrw PT150_ok (h := ?_)
  refine amStr (h := ?_)
  (refine amRt Tryd.results20 (h := ?_); try simp [*])
@[simp] def g_tBiased : List AV → Option (AV × Bool)
 | [.agg [.v (.int .i64 N), a0], a1, a2] => (match toNds a0 with | some ns => (match toSet a1 with | some a => (match toSet a2 with | some p => if (okI N && okNs ns) = true then some (biasR N ns a p, false) else none | none => none) | none => none) | none => none)
 | _ => none
theorem e_tBiased : EntOk Tryd.prog 20 g_tBiased := ent_pure (by kernel_rfl) fun args r fr h => by
 unfold g_tBiased at h
 split at h
 ·rename_i N a0 a1 a2
  split at h
  ·rename_i ns t0
   split at h
   ·rename_i a t1
    split at h
    ·rename_i p t2
     split at h
     ·rename_i hc
      simp only [Bool.and_eq_true] at hc
      obtain ⟨m0, o0⟩ := hc
      cases h
      exact ⟨FnPure.cov (biased_p N ns a p m0 o0) (.cons (cov_th _ (cov_nds t0)) (.cons (toSet_inv t1 ▸ Cov.refl _) (.cons (toSet_inv t2 ▸ Cov.refl _) .nil))), rfl⟩
     ·cases h
    ·cases h
   ·cases h
  ·cases h
 ·cases h

def l151 : List (FuncId × (List AV → Option (AV × Bool))) :=
 (20, g_tBiased) :: l150
theorem l151_ok : ∀ p ∈ l151, EntOk Tryd.prog p.1 p.2 := ent_cons e_tBiased (l150_ok)
def PT151 : PTab := tab l151
theorem PT151_ok : PTok Tryd.prog PT151 := tab_ok l151_ok
@[simp] theorem PT151_tBiased : PT151 20 = g_tBiased := rfl
@[simp] theorem PT151_old (f : FuncId) (h : decide (f ≠ 20) = true) : PT151 f = PT150 f := tab_old (of_decide_eq_true h)
end Go.Proofs.YtecdhmiamlgibaaDoor
