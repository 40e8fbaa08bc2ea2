/- censusref03.Less, censusref39.Biased; no condition. -/
import Derived.Test.YtecdhmiamlgibaaDoorQtG
import Derived.Test.YtecdhmiamlgibaaDoorWl
import Derived.Test.YtecdhmiamlgibaaDoorSuG
import Derived.Test.YtecdhmiamlgibaaDoorSj39
import Derived.Test.YtecdhmiamlgibaaDoorPw39
import Derived.Test.YtecdhmiamlgibaaDoorBs39
/- Ud39: censusref03.Less, censusref39.Biased; no condition. -/
namespace Go.Proofs.YtecdhmiamlgibaaDoor
set_option linter.unusedVariables false
set_option linter.unusedSimpArgs false
set_option linter.unusedSectionVars false
open Go.RowKit
open Wlk
attribute [-simp] List.getD_eq_getElem?_getD
set_option maxRecDepth 100000
theorem r3Less_p (a b : BitVec 128) : FnPure Tryd.prog 66 [aSet a, aSet b] (.v (.bool (lessS a b))) := by
 unfold aSet WV
 refine fn_sp TT_ok Tryd.func66 (c := _) rfl (by simp [Tryd.ntmps66]) (fun B hI0 hro => ?_)
 rw [Tryd.ntmps66]
 simp only [enumA]
 refine amStr (h := ?_)
 refine amReg PT173_ok (h := ?_)
 refine amStr (h := ?_)
 refine amReg PT173_ok (h := ?_)
 refine amStr (h := ?_)
 refine s_loop (J := fun i : {k : Nat // k ≤ 128 ∧ Hid (∀ j : Nat, j < k → sHas a ((j : Int) + 1) = sHas b ((j : Int) + 1))} => ⟨20, [(2, .ptr 0 0 0), (3, .ptr 1 0 0), (4, .v (.bool false)), (5, .v (.int .i64 ((i.1 : Int) + 1)))], [(0, ⟨27, 2, [[.v (.int .u64 ((lo a).toNat : Int)), .v (.int .u64 ((hi a).toNat : Int))]]⟩), (1, ⟨27, 2, [[.v (.int .u64 ((lo b).toNat : Int)), .v (.int .u64 ((hi b).toNat : Int))]]⟩)], [1, 0]⟩) (μ := fun i => 128 - i.1) ⟨0, Nat.zero_le _, Lib.hid fun j hj => by omega⟩ ?_ (fun ⟨k, hk, HJ⟩ => ?_)
 ·(refine weak_id rfl ?_ ?_ <;> ((try simp only [List.mem_cons, List.not_mem_nil, or_false, forall_eq_or_imp, forall_eq]); (try simp (disch := omega) [i64w, *])))
 try dsimp only at hk HJ
 have hnx : sHas a ((k : Int) + 1) = sHas b ((k : Int) + 1) → ∀ j : Nat, j < k + 1 → sHas a ((j : Int) + 1) = sHas b ((j : Int) + 1) := fun h1 j hj => by
  by_cases e : j = k
  ·rw [e, h1]
  ·exact HJ.out j (by omega)
 have hat := fun hi h => less_at (a := a) (b := b) (i := k) hi h HJ.out
 obtain ⟨v, hv⟩ : ∃ v, (k : Int) + 1 = v := ⟨_, rfl⟩
 have hv2 : ((k + 1 : Nat) : Int) + 1 = v + 1 := by omega
 have hwk : IntKind.i64.wrap (v + 1) = v + 1 := i64w (by omega) (by omega)
 have hov : okI v = true := okI_iff.2 ⟨by omega, by omega⟩
 have hkm : v ≤ 128 ↔ k < 128 := by omega
 dsimp only
 rw [hv] at hnx hat ⊢
 have HV := Lib.hid hv
 have HNX := Lib.hid hnx
 have HAT := Lib.hid hat
 clear hv hnx hat
 by_cases hkm2 : v ≤ 128
 ·have hkk := hkm.1 hkm2
  clear hkm
  cases h1 : sHas a v
  ·cases h2 : sHas b v
   ·have HN := Lib.hid (HNX.out (by rw [h1, h2]))
    refine amStr (h := ?_)
    refine amReg PT173_ok (h := ?_)
    refine amStr (h := ?_)
    refine amDrw PT173_ok (h := ?_)
    refine amStr (h := ?_)
    refine amReg PT173_ok (h := ?_)
    refine k_lp (⟨k + 1, hkk, HN⟩ : {k : Nat // k ≤ 128 ∧ Hid (∀ j : Nat, j < k → sHas a ((j : Int) + 1) = sHas b ((j : Int) + 1))}) (by first | omega | (dsimp only; omega)) ?_
    (refine weak_id rfl ?_ ?_ <;> ((try simp only [List.mem_cons, List.not_mem_nil, or_false, forall_eq_or_imp, forall_eq]); (try simp (disch := omega) [i64w, *])))
    all_goals exact HV.out.symm
   ·have hF := HAT.out hkk (by rw [h1, h2]; decide)
    rw [hF]
    refine amStr (h := ?_)
    refine amReg PT173_ok (h := ?_)
    refine amStr (h := ?_)
    refine amDrw PT173_ok (h := ?_)
    refine amStr (h := ?_)
    refine amReg PT173_ok (h := ?_)
    refine amStr (h := ?_)
    (refine amRt Tryd.results66 (h := ?_); try simp [*])
  ·cases h2 : sHas b v
   ·have hF := HAT.out hkk (by rw [h1, h2]; decide)
    rw [hF]
    refine amStr (h := ?_)
    refine amReg PT173_ok (h := ?_)
    refine amStr (h := ?_)
    refine amDrw PT173_ok (h := ?_)
    refine amStr (h := ?_)
    refine amReg PT173_ok (h := ?_)
    refine amStr (h := ?_)
    (refine amRt Tryd.results66 (h := ?_); try simp [*])
   ·have HN := Lib.hid (HNX.out (by rw [h1, h2]))
    refine amStr (h := ?_)
    refine amReg PT173_ok (h := ?_)
    refine amStr (h := ?_)
    refine amDrw PT173_ok (h := ?_)
    refine amStr (h := ?_)
    refine amReg PT173_ok (h := ?_)
    refine k_lp (⟨k + 1, hkk, HN⟩ : {k : Nat // k ≤ 128 ∧ Hid (∀ j : Nat, j < k → sHas a ((j : Int) + 1) = sHas b ((j : Int) + 1))}) (by first | omega | (dsimp only; omega)) ?_
    (refine weak_id rfl ?_ ?_ <;> ((try simp only [List.mem_cons, List.not_mem_nil, or_false, forall_eq_or_imp, forall_eq]); (try simp (disch := omega) [i64w, *])))
    all_goals exact HV.out.symm
 ·obtain rfl : k = 128 := by have := HV.out; omega
  have hF := less_no (a := a) (b := b) HJ.out
  rw [hF]
  refine amGo PT173_ok (h := ?_)
  (refine amRt Tryd.results66 (h := ?_); try simp [*])
def biaRA (N : Int) (ns : List Nd) (a p : BitVec 128) : AV := if chkN N ns a = 0 then .tup [.v (.bool (!suffB ns a (matS ns &&& ~~~ p))), .v (.int .i64 0)] else .tup [.v (.bool false), .v (.int .i64 (chkN N ns a))]
theorem chk_zero {N : Int} {ns : List Nd} {a : BitVec 128} (h : chkN N ns a = 0) : validN N ns = true ∧ (listS (matS ns)).length ≤ 16 := by
 unfold chkN at h
 split at h
 ·cases h
 ·rename_i hv
  split at h
  ·cases h
  ·rename_i h16
   rw [Bool.not_eq_false, Bool.and_eq_true] at hv
   exact ⟨hv.1, by omega⟩
theorem r39Bia_p (N : Int) (ns : List Nd) (a p : BitVec 128) (hN : okI N = true) (h : okNs ns = true) : FnPure Tryd.prog 32 [aNet N ns, aSet a, aSet p] (biaRA N ns a p) := by
 have hl := okNs_len h
 unfold biaRA
 by_cases hz : chkN N ns a = 0
 ·obtain ⟨hv, h16⟩ := chk_zero hz
  rw [if_pos hz]
  unfold aNet aNds aSet WV
  refine fn_sp TT_ok Tryd.func32 (c := _) rfl (by simp [Tryd.ntmps32]) (fun B hI0 hro => ?_)
  rw [Tryd.ntmps32]
  simp only [enumA]
  refine amGo PT173_ok (h := ?_)
  (refine amRt Tryd.results32 (h := ?_); try simp [*])
 ·rw [if_neg hz]
  unfold aNet aNds aSet WV
  obtain ⟨e, he⟩ : ∃ e, chkN N ns a = e := ⟨_, rfl⟩
  rw [he] at hz ⊢
  have hzb : (e != 0) = true := by simpa using hz
  refine fn_sp TT_ok Tryd.func32 (c := _) rfl (by simp [Tryd.ntmps32]) (fun B hI0 hro => ?_)
  rw [Tryd.ntmps32]
  simp only [enumA]
  refine amGo PT173_ok (h := ?_)
  (refine amRt Tryd.results32 (h := ?_); try simp [*])
@[simp] def g_r3Less : List AV → Option (AV × Bool)
 | [a0, a1] => (match toSet a0 with | some a => (match toSet a1 with | some b => if (true) = true then some (.v (.bool (lessS a b)), false) else none | none => none) | none => none)
 | _ => none
theorem e_r3Less : EntOk Tryd.prog 66 g_r3Less := ent_pure (by kernel_rfl) fun args r fr h => by
 unfold g_r3Less at h
 split at h
 ·rename_i a0 a1
  split at h
  ·rename_i a t0
   split at h
   ·rename_i b t1
    split at h
    ·rename_i hc
     cases h
     exact ⟨FnPure.cov (r3Less_p a b) (.cons (toSet_inv t0 ▸ Cov.refl _) (.cons (toSet_inv t1 ▸ Cov.refl _) .nil)), rfl⟩
    ·cases h
   ·cases h
  ·cases h
 ·cases h

@[simp] def g_r39Bia : List AV → Option (AV × Bool)
 | [.agg [.v (.int .i64 N), a0], a1, a2] => (match toNds a0 with | some ns => (match toSet a1 with | some a => (match toSet a2 with | some p => if (okI N && okNs ns) = true then some (biaRA N ns a p, false) else none | none => none) | none => none) | none => none)
 | _ => none
theorem e_r39Bia : EntOk Tryd.prog 32 g_r39Bia := ent_pure (by kernel_rfl) fun args r fr h => by
 unfold g_r39Bia at h
 split at h
 ·rename_i N a0 a1 a2
  split at h
  ·rename_i ns t0
   split at h
   ·rename_i a t1
    split at h
    ·rename_i p t2
     split at h
     ·rename_i hc
      simp only [Bool.and_eq_true] at hc
      obtain ⟨m0, o0⟩ := hc
      cases h
      exact ⟨FnPure.cov (r39Bia_p N ns a p m0 o0) (.cons (cov_th _ (cov_nds t0)) (.cons (toSet_inv t1 ▸ Cov.refl _) (.cons (toSet_inv t2 ▸ Cov.refl _) .nil))), rfl⟩
     ·cases h
    ·cases h
   ·cases h
  ·cases h
 ·cases h

def l178 : List (FuncId × (List AV → Option (AV × Bool))) :=
 (66, g_r3Less) :: (32, g_r39Bia) :: l173
theorem l178_ok : ∀ p ∈ l178, EntOk Tryd.prog p.1 p.2 := ent_cons e_r3Less (ent_cons e_r39Bia (l173_ok))
def PT178 : PTab := tab l178
theorem PT178_ok : PTok Tryd.prog PT178 := tab_ok l178_ok
@[simp] theorem PT178_r3Less : PT178 66 = g_r3Less := rfl
@[simp] theorem PT178_r39Bia : PT178 32 = g_r39Bia := rfl
@[simp] theorem PT178_old (f : FuncId) (h : decide (f ≠ 66 ∧ f ≠ 32) = true) : PT178 f = PT173 f := (fun h => Eq.trans (tab_old h.1) (tab_old h.2)) (of_decide_eq_true h)
end Go.Proofs.YtecdhmiamlgibaaDoor
/- Ue39: censusref39.Bias; no condition. -/
namespace Go.Proofs.YtecdhmiamlgibaaDoor
set_option linter.unusedVariables false
set_option linter.unusedSimpArgs false
set_option linter.unusedSectionVars false
open Go.RowKit
open Wlk
attribute [-simp] List.getD_eq_getElem?_getD
set_option maxRecDepth 100000
attribute [local simp] aSets
def bsF (ns : List Nd) (p : BitVec 128) (o : Option (BitVec 128)) (x : BitVec 128) : Option (BitVec 128) := if (!suffB ns x (matS ns &&& ~~~ p) && (match o with | none => true | some b => lessS x b)) = true then some x else o
theorem bsF_take (ns : List Nd) (p : BitVec 128) {X : List (BitVec 128)} {k : Nat} (hk : k < X.length) : (X.take (k + 1)).foldl (bsF ns p) none = bsF ns p ((X.take k).foldl (bsF ns p) none) (X.getD k 0#128) := by
 have e : X.getD k 0#128 = X[k] := by simp [List.getD, hk]
 rw [List.take_succ_eq_append_getElem hk, List.foldl_append, e]; rfl
theorem subs_chk {N : Int} {ns : List Nd} (hv : validN N ns = true) (h16 : (listS (matS ns)).length ≤ 16) {x : BitVec 128} (hx : x ∈ subsL (listS (matS ns))) : chkN N ns x = 0 := by
 have hs : sSub x (sAll N) = true := by
  rw [sSub_iffR]
  intro v hxv
  rw [subs_eq] at hx
  obtain ⟨i, _, rfl⟩ := List.mem_map.1 hx
  have h1 := setX_in (listS_vs _) hxv
  have h2 := mat_le hv (v := v) h1
  have h3 := sHas_mem hxv
  rw [sHas_all, decide_eq_true_eq]
  exact ⟨h3.1, h2, h3.2⟩
 unfold chkN
 rw [if_neg (by rw [hv, hs]; decide), if_neg (by omega)]
theorem bsF_none (ns : List Nd) (p x : BitVec 128) : bsF ns p none x = if suffB ns x (matS ns &&& ~~~ p) = true then none else some x := by
 unfold bsF
 cases suffB ns x (matS ns &&& ~~~ p) <;> rfl
theorem bsF_some (ns : List Nd) (p x b : BitVec 128) : bsF ns p (some b) x = if suffB ns x (matS ns &&& ~~~ p) = true then some b else if lessS x b = true then some x else some b := by
 rw [show bsF ns p (some b) x = if (!suffB ns x (matS ns &&& ~~~ p) && lessS x b) = true then some x else some b from rfl]
 by_cases h1 : suffB ns x (matS ns &&& ~~~ p) = true
 ·rw [if_pos h1, h1]; rfl
 ·rw [if_neg h1]
  rw [Bool.not_eq_true] at h1
  rw [h1, Bool.not_false, Bool.true_and]
def refBA (N : Int) (ns : List Nd) (p : BitVec 128) : AV := if chkN N ns 0#128 = 0 then .tup [aSet ((refBs ns p).getD 0#128), .v (.bool (refBs ns p).isSome), .v (.int .i64 0)] else .tup [aSet 0#128, .v (.bool false), .v (.int .i64 (chkN N ns 0#128))]
set_option maxHeartbeats 8000000 in
theorem r39Bis_p (N : Int) (ns : List Nd) (p : BitVec 128) (hN : okI N = true) (h : okNs ns = true) : FnPure Tryd.prog 34 [aNet N ns, aSet p] (refBA N ns p) := by
 have hl := okNs_len h
 obtain ⟨z1, z2⟩ := words0
 have hz0 : toSet (.agg [.v (.int .u64 0), .v (.int .u64 0)]) = some 0#128 := rfl
 unfold refBA
 by_cases hz : chkN N ns 0#128 = 0
 ·rw [if_pos hz]
  obtain ⟨hv, h16⟩ := chk_zero hz
  have hxl := subs_len (listS (matS ns))
  have hp : 2 ^ (listS (matS ns)).length ≤ 2 ^ 16 := Nat.pow_le_pow_right (by omega) h16
  have hp2 : (2 : Nat) ^ 16 = 65536 := by decide
  have hck := fun x (hx : x ∈ subsL (listS (matS ns))) => subs_chk hv h16 hx
  have hR : refBs ns p = (subsL (listS (matS ns))).foldl (bsF ns p) none := rfl
  rw [hR]
  clear hR
  unfold aNet aNds aSet WV
  obtain ⟨X, hX⟩ : ∃ X, subsL (listS (matS ns)) = X := ⟨_, rfl⟩
  rw [hX] at hxl hck ⊢
  have hX5 : X.length ≤ 65536 := by omega
  have HCK := Lib.hid hck
  clear hxl hp hp2 hck
  refine fn_sp TT_ok Tryd.func34 (c := _) rfl (by simp [Tryd.ntmps34]) (fun B hI0 hro => ?_)
  rw [Tryd.ntmps34]
  simp only [enumA]
  refine amStr (h := ?_)
  refine amReg PT178_ok (h := ?_)
  refine amStr (h := ?_)
  refine amReg PT178_ok (h := ?_)
  refine amStr (h := ?_)
  refine amReg PT178_ok (h := ?_)
  refine amStr (h := ?_)
  refine amReg PT178_ok (h := ?_)
  refine amStr (h := ?_)
  refine amReg PT178_ok (h := ?_)
  refine amStr (h := ?_)
  refine amReg PT178_ok (h := ?_)
  refine amStr (h := ?_)
  refine amReg PT178_ok (h := ?_)
  refine amStr (h := ?_)
  refine s_loop (J := fun i : {k : Nat // k ≤ X.length} => ⟨59, [(2, .ptr 0 0 0), (3, .ptr 1 0 0), (4, .ptr 2 0 0), (5, .v (.bool false)), (6, .v (.int .i64 0)), (8, aSets X), (9, .v (.bool ((X.take i.1).foldl (bsF ns p) none).isSome)), (10, .ptr 3 0 0), (11, .v (.int .i64 (i.1 : Int)))], [(3, ⟨27, 2, [[.v (.int .u64 ((lo (((X.take i.1).foldl (bsF ns p) none).getD 0#128)).toNat : Int)), .v (.int .u64 ((hi (((X.take i.1).foldl (bsF ns p) none).getD 0#128)).toNat : Int))]]⟩), (0, ⟨24, 2, [[.v (.int .i64 N), .sl 3 (ns.map fun x => [AV.v (.int .i64 x.1), .v (.int .i64 x.2.1), aInts x.2.2])]]⟩), (1, ⟨27, 2, [[.v (.int .u64 ((lo p).toNat : Int)), .v (.int .u64 ((hi p).toNat : Int))]]⟩), (2, ⟨27, 2, [[.v (.int .u64 0), .v (.int .u64 0)]]⟩)], [3, 2, 1, 0]⟩) (μ := fun i => X.length - i.1) ⟨0, Nat.zero_le _⟩ ?_ (fun ⟨k, hk⟩ => ?_)
  ·(refine weak_id rfl ?_ ?_ <;> ((try simp only [List.mem_cons, List.not_mem_nil, or_false, forall_eq_or_imp, forall_eq]); (try simp (disch := omega) [i64w, *])))
  clear hX
  refine amStr (h := ?_)
  refine amReg PT178_ok (h := ?_)
  refine amStr (h := ?_)
  (focus ((with_reducible refine sp_cond (b := ?_) ?_ (fun hc => ?_) (fun hc => ?_)); rotate_left; (focus (first | rfl | (simp [lk, AS.ev]; rfl))); all_goals (try simp at hc)))
  ·have hkk : k < X.length := hc
   clear hc
   have hki : (k : Int) < (X.length : Int) := by omega
   have hwk : IntKind.i64.wrap ((k : Int) + 1) = (k : Int) + 1 := i64s k (by omega)
   have hs := bsF_take ns p hkk
   have hcx : chkN N ns (X.getD k 0#128) = 0 := HCK.out _ (by
    have e : X.getD k 0#128 = X[k] := by simp [List.getD, hkk]
    rw [e]; exact List.getElem_mem hkk)
   have hbx : biaRA N ns (X.getD k 0#128) p = .tup [.v (.bool (!suffB ns (X.getD k 0#128) (matS ns &&& ~~~ p))), .v (.int .i64 0)] := by unfold biaRA; rw [if_pos hcx]
   obtain ⟨o, ho⟩ : ∃ o, (X.take k).foldl (bsF ns p) none = o := ⟨_, rfl⟩
   rw [ho] at hs ⊢
   clear ho HCK hcx
   cases o with
   | none =>
    rw [bsF_none] at hs
    cases hsf : suffB ns (X.getD k 0#128) (matS ns &&& ~~~ p)
    ·rw [hsf] at hbx
     rw [hsf, if_neg (by decide)] at hs
     clear hsf
     refine amGo PT178_ok (h := ?_)
     refine k_lp (⟨k + 1, hkk⟩ : {k : Nat // k ≤ X.length}) (by first | omega | (dsimp only; omega)) ?_
     (refine weak_id rfl ?_ ?_ <;> ((try simp only [List.mem_cons, List.not_mem_nil, or_false, forall_eq_or_imp, forall_eq]); (try simp (disch := omega) [i64w, *])))
    ·rw [hsf] at hbx
     rw [hsf, if_pos rfl] at hs
     clear hsf
     refine amGo PT178_ok (h := ?_)
     refine k_lp (⟨k + 1, hkk⟩ : {k : Nat // k ≤ X.length}) (by first | omega | (dsimp only; omega)) ?_
     (refine weak_id rfl ?_ ?_ <;> ((try simp only [List.mem_cons, List.not_mem_nil, or_false, forall_eq_or_imp, forall_eq]); (try simp (disch := omega) [i64w, *])))
   | some b =>
    rw [bsF_some] at hs
    cases hsf : suffB ns (X.getD k 0#128) (matS ns &&& ~~~ p)
    ·rw [hsf] at hbx
     rw [hsf, if_neg (by decide)] at hs
     clear hsf
     cases hlb : lessS (X.getD k 0#128) b
     ·rw [hlb, if_neg (by decide)] at hs
      refine amGo PT178_ok (h := ?_)
      refine k_lp (⟨k + 1, hkk⟩ : {k : Nat // k ≤ X.length}) (by first | omega | (dsimp only; omega)) ?_
      (refine weak_id rfl ?_ ?_ <;> ((try simp only [List.mem_cons, List.not_mem_nil, or_false, forall_eq_or_imp, forall_eq]); (try simp (disch := omega) [i64w, *])))
     ·rw [hlb, if_pos rfl] at hs
      refine amGo PT178_ok (h := ?_)
      refine k_lp (⟨k + 1, hkk⟩ : {k : Nat // k ≤ X.length}) (by first | omega | (dsimp only; omega)) ?_
      (refine weak_id rfl ?_ ?_ <;> ((try simp only [List.mem_cons, List.not_mem_nil, or_false, forall_eq_or_imp, forall_eq]); (try simp (disch := omega) [i64w, *])))
    ·rw [hsf] at hbx
     rw [hsf, if_pos rfl] at hs
     clear hsf
     refine amGo PT178_ok (h := ?_)
     refine k_lp (⟨k + 1, hkk⟩ : {k : Nat // k ≤ X.length}) (by first | omega | (dsimp only; omega)) ?_
     (refine weak_id rfl ?_ ?_ <;> ((try simp only [List.mem_cons, List.not_mem_nil, or_false, forall_eq_or_imp, forall_eq]); (try simp (disch := omega) [i64w, *])))
  ·obtain rfl : k = X.length := by omega
   clear hc
   have e : X.take X.length = X := List.take_length
   rw [e]
   generalize X.foldl (bsF ns p) none = o
   refine amGo PT178_ok (h := ?_)
   (refine amRt Tryd.results34 (h := ?_); try simp [*])
 ·rw [if_neg hz]
  unfold aNet aNds aSet WV
  obtain ⟨e, he⟩ : ∃ e, chkN N ns 0#128 = e := ⟨_, rfl⟩
  rw [he] at hz ⊢
  have hzb : (e != 0) = true := by simpa using hz
  refine fn_sp TT_ok Tryd.func34 (c := _) rfl (by simp [Tryd.ntmps34]) (fun B hI0 hro => ?_)
  rw [Tryd.ntmps34]
  simp only [enumA]
  refine amGo PT178_ok (h := ?_)
  (refine amRt Tryd.results34 (h := ?_); try simp [*])
@[simp] def g_r39Bis : List AV → Option (AV × Bool)
 | [.agg [.v (.int .i64 N), a0], a1] => (match toNds a0 with | some ns => (match toSet a1 with | some p => if (okI N && okNs ns) = true then some (refBA N ns p, false) else none | none => none) | none => none)
 | _ => none
theorem e_r39Bis : EntOk Tryd.prog 34 g_r39Bis := ent_pure (by kernel_rfl) fun args r fr h => by
 unfold g_r39Bis at h
 split at h
 ·rename_i N a0 a1
  split at h
  ·rename_i ns t0
   split at h
   ·rename_i p t1
    split at h
    ·rename_i hc
     simp only [Bool.and_eq_true] at hc
     obtain ⟨m0, o0⟩ := hc
     cases h
     exact ⟨FnPure.cov (r39Bis_p N ns p m0 o0) (.cons (cov_th _ (cov_nds t0)) (.cons (toSet_inv t1 ▸ Cov.refl _) .nil)), rfl⟩
    ·cases h
   ·cases h
  ·cases h
 ·cases h

def l179 : List (FuncId × (List AV → Option (AV × Bool))) :=
 (34, g_r39Bis) :: (33, g_tBias) :: l178
theorem l179_ok : ∀ p ∈ l179, EntOk Tryd.prog p.1 p.2 := ent_cons e_r39Bis (ent_cons e_tBias (l178_ok))
def PT179 : PTab := tab l179
theorem PT179_ok : PTok Tryd.prog PT179 := tab_ok l179_ok
@[simp] theorem PT179_r39Bis : PT179 34 = g_r39Bis := rfl
@[simp] theorem PT179_tBias : PT179 33 = g_tBias := rfl
@[simp] theorem PT179_old (f : FuncId) (h : decide (f ≠ 34 ∧ f ≠ 33) = true) : PT179 f = PT178 f := (fun h => Eq.trans (tab_old h.1) (tab_old h.2)) (of_decide_eq_true h)
end Go.Proofs.YtecdhmiamlgibaaDoor
