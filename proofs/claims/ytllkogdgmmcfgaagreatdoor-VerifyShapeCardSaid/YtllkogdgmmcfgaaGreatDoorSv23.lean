/- The reference's variables of a net; no condition. -/
import Derived.Test.YtllkogdgmmcfgaaGreatDoorWxG
import Derived.Test.YtllkogdgmmcfgaaGreatDoorWa
import Derived.Test.YtllkogdgmmcfgaaGreatDoorPb23
namespace Go.Proofs.YtllkogdgmmcfgaaGreatDoor
set_option linter.unusedVariables false
set_option linter.unusedSimpArgs false
set_option linter.unusedSectionVars false
open Go.RowKit
attribute [local simp] List.getD_cons_zero List.getD_cons_succ List.getD_nil undef gvars runL runE effA stepA dstOk wantA core lk st dl AS.ev AS.evs AS.put AS.upd updO updI nxt cPick cAlloc cBox cBuild cBuildS cLoad cStore cNil plainOf cBin cNilS isNilS nilA cUn cConvX cConvB cConv bytesOf rowB cMake cSlice slA idxA cFA cF cIA cIX cIS cI cExt cLen cApp cMM cFun cCall lenA lenM isNilM nilM cNilM cMakeM hintB cMapK cLook foundR lookR cUpd putM cDel delM findA isKeyB Instr.sameNow AS.entry AS.bound AS.callee sc1 sc2 ixOk ldA AV.flat AV.cell AV.cells Value.oneCell' fillA spl chunk zeros AS.parts AS.rows AS.shut AS.shut1 AS.shut2 AS.shutL AS.shutM AV.ids idsL idsLL eqAll bndA AV.scalar AV.scalar1 AV.isV Ef.app Ef.pk ptOf pntO wrO wr
attribute [-simp] List.getD_eq_getElem?_getD
set_option maxRecDepth 100000
theorem gmemIS {xs : List Int} {j : Nat} (hj : j < xs.length) : xs.getD j 0 ∈ xs := by
 have : xs.getD j 0 = xs[j] := by simp [List.getD, hj]
 rw [this]; exact List.getElem_mem hj
theorem words0S : lo 0#128 = 0#64 ∧ hi 0#128 = 0#64 := ⟨by decide, by decide⟩
theorem s_cutKS {P : Program} {B : Base} {x y : Code} {σ : AS} {Q : Exit → AS → Prop} (S : AS) (h : SP P B x σ (fun e τ => e = .normal ∧ ∀ c Q', SP P B c S Q' → SP P B c τ Q')) (k : SP P B y S Q) : SP P B x σ (Kseq P B y Q) :=
 sp_mono h fun e τ h => by obtain ⟨rfl, h⟩ := h; exact k_seq (h y Q k)
theorem bit_loS {v : Int} (h1 : 1 ≤ v) (h2 : v ≤ 64) : lo (sBit v) = BitVec.twoPow 64 (v - 1).toNat ∧ hi (sBit v) = 0#64 := by
 obtain ⟨a, b⟩ := lo_with 0#128 v h1 h2
 rw [sWith, BitVec.zero_or] at a b
 rw [a, b, words0S.1, words0S.2, BitVec.zero_or]; exact ⟨rfl, rfl⟩
theorem bit_hi2S {v : Int} (h1 : 65 ≤ v) (h2 : v ≤ 128) : lo (sBit v) = 0#64 ∧ hi (sBit v) = BitVec.twoPow 64 (v - 65).toNat := by
 obtain ⟨a, b⟩ := hi_with 0#128 v h1 h2
 rw [sWith, BitVec.zero_or] at a b
 rw [a, b, words0S.1, words0S.2, BitVec.zero_or]; exact ⟨rfl, rfl⟩
theorem sWith_zeroS (v : Int) : sWith 0#128 v = sBit v := by unfold sWith; rw [BitVec.zero_or]
theorem sBit_zeroS : sBit 0 = 0#128 := by unfold sBit; rw [if_neg (by omega)]
def varsAS (N : Int) (ns : List Nd) : AV := if validN N ns = true then aSets (varsL ns) else .v (.slice none 0 0)
theorem varsL_lenT (ns : List Nd) {k : Nat} (hk : k ≤ ns.length) : (varsL (ns.take k)).length = k := scanN_lenT nodeS ns k hk
theorem varsL_take {ns : List Nd} {k : Nat} (hk : k < ns.length) : varsL (ns.take (k + 1)) = varsL (ns.take k) ++ [accV (ns.getD k nd0) (varsL (ns.take k)) (ns.getD k nd0).2.2.length] := by
 unfold varsL
 rw [scanN_take nodeS hk, accV_all]
theorem word_orS (x y : BitVec 64) : IntKind.u64.wrap (((x.toNat % 2 ^ IntKind.u64.bits ||| y.toNat % 2 ^ IntKind.u64.bits : Nat)) : Int) = ((x ||| y).toNat : Int) := by
 rw [bits64, Nat.mod_eq_of_lt x.isLt, Nat.mod_eq_of_lt y.isLt, ← BitVec.toNat_or]
 exact u64w (by omega) (by have := (x ||| y).isLt; omega)
theorem r20Vars_p (N : Int) (ns : List Nd) (hN : okI N = true) (h : okNs ns = true) : FnPure Tryz.prog 39 [aNet N ns] (varsAS N ns) := by
 have hl := okNs_len h
 obtain ⟨z1, z2⟩ := words0S
 unfold aNet aNds varsAS
 cases hv : validN N ns
 ·rw [if_neg (by decide)]
  refine fn_sp TT_ok Tryz.func39 (c := _) rfl (by simp [Tryz.ntmps39]) (fun B hI0 hro => ?_)
  rw [Tryz.ntmps39]
  simp only [enumA]
  refine amGo PT207_ok (h := ?_)
  (refine amRt Tryz.results39 (h := ?_); try simp [*])
 rw [if_pos rfl]
 unfold aSets
 refine fn_sp TT_ok Tryz.func39 (c := _) rfl (by simp [Tryz.ntmps39]) (fun B hI0 hro => ?_)
 rw [Tryz.ntmps39]
 simp only [enumA]
 refine amGo PT207_ok (h := ?_)
 refine s_nil 3 50 47 2 (by simp [lk]) (by simp) ?_
 simp only [st]
 refine s_loop (J := fun i : {k : Nat // k ≤ ns.length} => ⟨77, [(1, .ptr 0 0 0), (3, .ref 50 0 (varsL (ns.take i.1)).length), (4, .v (.int .i64 (i.1 : Int)))], [(50, ⟨47, 2, (varsL (ns.take i.1)).map fun s => [AV.v (.int .u64 ((lo s).toNat : Int)), .v (.int .u64 ((hi s).toNat : Int))]⟩), (0, ⟨28, 2, [[.v (.int .i64 N), .sl 3 (ns.map fun x => [AV.v (.int .i64 x.1), .v (.int .i64 x.2.1), aInts x.2.2])]]⟩)], [50, 0]⟩) (μ := fun i => ns.length - i.1) ⟨0, Nat.zero_le _⟩ ?_ (fun ⟨k, hk⟩ => ?_)
 ·have h0 : varsL [] = [] := rfl
  (refine weak_id rfl ?_ ?_ <;> ((try simp only [List.mem_cons, List.not_mem_nil, or_false, forall_eq_or_imp, forall_eq]); (try simp (disch := omega) [i64w, *])))
 dsimp only
 have hO := varsL_lenT ns hk
 have htk := varsL_take (ns := ns) (k := k)
 generalize hgo : varsL (ns.take k) = O at hO htk ⊢
 refine amGo PT207_ok (h := ?_)
 (focus ((with_reducible refine sp_cond (b := ?_) ?_ (fun hc => ?_) (fun hc => ?_)); rotate_left; (focus (first | rfl | (simp [lk, AS.ev]; rfl))); all_goals (try simp at hc)))
 ·have hkk := hc
  clear hc
  replace htk := htk hkk
  have hfm := valid_form hv hkk
  obtain ⟨o1, o2, o3, o5⟩ := okNs_at h hkk
  have o6 := okInts_len o3
  have hacc : ∀ j, j < (ns.getD k nd0).2.2.length → _ := fun j hj => accV_succ (ns.getD k nd0) O hj
  have hin : ∀ j, j < (ns.getD k nd0).2.2.length → ∃ m : Nat, (ns.getD k nd0).2.2.getD j 0 = (m : Int) ∧ m < k := fun j hj => by
   have := form_in hfm (gmemIS hj)
   exact ⟨((ns.getD k nd0).2.2.getD j 0).toNat, by omega, by omega⟩
  have hacc0 : accV (ns.getD k nd0) O 0 = sBit (litVar (ns.getD k nd0).2.1) := rfl
  obtain ⟨v1, v2⟩ := litVar_range (ns.getD k nd0).2.1
  generalize hvv : litVar (ns.getD k nd0).2.1 = v at hacc0 v1 v2
  have hov : okI v = true := okI_iff.2 ⟨by omega, by omega⟩
  refine amStr (h := ?_)
  refine amReg PT207_ok (h := ?_)
  refine amStr (h := ?_)
  refine amReg PT207_ok (h := ?_)
  refine amStr (h := ?_)
  refine amReg PT207_ok (h := ?_)
  refine k_seq ?_
  refine s_cutKS ⟨77, [(1, .ptr 0 0 0), (3, .ref 50 0 O.length), (4, .v (.int .i64 (k : Int))), (5, .ptr 51 0 0)], [(51, ⟨47, 2, [[.v (.int .u64 ((lo (sBit v)).toNat : Int)), .v (.int .u64 ((hi (sBit v)).toNat : Int))]]⟩), (50, ⟨47, 2, O.map fun s => [AV.v (.int .u64 ((lo s).toNat : Int)), .v (.int .u64 ((hi s).toNat : Int))]⟩), (0, ⟨28, 2, [[.v (.int .i64 N), .sl 3 (ns.map fun x => [AV.v (.int .i64 x.1), .v (.int .i64 x.2.1), aInts x.2.2])]]⟩)], [51, 50, 0]⟩ ?_ ?_
  ·by_cases v0 : v = 0
   ·subst v0
    rw [sBit_zeroS, z1, z2]
    refine amStr (h := ?_)
    refine ⟨rfl, fun c Q' k => ?_⟩
    refine s_weak _ ?_ k
    (refine weak_id rfl ?_ ?_ <;> ((try simp only [List.mem_cons, List.not_mem_nil, or_false, forall_eq_or_imp, forall_eq]); (try simp (disch := omega) [i64w, *])))
   have v3 : 0 < v := by omega
   have w1 : IntKind.i64.wrap (v - 1) = v - 1 := i64w (by omega) (by omega)
   clear hacc hacc0 hin htk
   by_cases hlo : v ≤ 64
   ·obtain ⟨q1, q2⟩ := quo64_lo (by omega : 1 ≤ v) hlo
    obtain ⟨g1, g2⟩ := shl_lo (by omega : 1 ≤ v) hlo
    obtain ⟨l1, l2⟩ := bit_loS (by omega : 1 ≤ v) hlo
    rw [l1, l2]
    generalize BitVec.twoPow 64 (v - 1).toNat = bt at g2 ⊢
    clear l1 l2
    have f3 : ¬ (v - 1 < 0) := by omega
    have w2 : IntKind.u64.wrap (v - 1) = v - 1 := u64w (by omega) (by omega)
    refine amGo PT207_ok (h := ?_)
    refine ⟨rfl, fun c Q' k => ?_⟩
    refine s_weak _ ?_ k
    (refine weak_id rfl ?_ ?_ <;> ((try simp only [List.mem_cons, List.not_mem_nil, or_false, forall_eq_or_imp, forall_eq]); (try simp (disch := omega) [i64w, *])))
   ·obtain ⟨q1, q2⟩ := quo64_hi (by omega : 65 ≤ v) v2
    obtain ⟨g1, g2⟩ := shl_hi (by omega : 65 ≤ v) v2
    obtain ⟨l1, l2⟩ := bit_hi2S (by omega : 65 ≤ v) v2
    rw [l1, l2]
    generalize BitVec.twoPow 64 (v - 65).toNat = bt at g2 ⊢
    generalize hq : (v - 65).toNat = q at g1 g2
    clear l1 l2
    have f3 : ¬ (v - 65 < 0) := by omega
    have w2 : IntKind.u64.wrap (v - 65) = v - 65 := u64w (by omega) (by omega)
    refine amGo PT207_ok (h := ?_)
    refine ⟨rfl, fun c Q' k => ?_⟩
    refine s_weak _ ?_ k
    (refine weak_id rfl ?_ ?_ <;> ((try simp only [List.mem_cons, List.not_mem_nil, or_false, forall_eq_or_imp, forall_eq]); (try simp (disch := omega) [i64w, *])))
  clear hvv
  refine amStr (h := ?_)
  refine amReg PT207_ok (h := ?_)
  refine amStr (h := ?_)
  refine s_loop (J := fun i : {j : Nat // j ≤ (ns.getD k nd0).2.2.length} => ⟨77, [(1, .ptr 0 0 0), (3, .ref 50 0 O.length), (4, .v (.int .i64 (k : Int))), (5, .ptr 51 0 0), (7, .v (.int .i64 (i.1 : Int)))], [(51, ⟨47, 2, [[.v (.int .u64 ((lo (accV (ns.getD k nd0) O i.1)).toNat : Int)), .v (.int .u64 ((hi (accV (ns.getD k nd0) O i.1)).toNat : Int))]]⟩), (50, ⟨47, 2, O.map fun s => [AV.v (.int .u64 ((lo s).toNat : Int)), .v (.int .u64 ((hi s).toNat : Int))]⟩), (0, ⟨28, 2, [[.v (.int .i64 N), .sl 3 (ns.map fun x => [AV.v (.int .i64 x.1), .v (.int .i64 x.2.1), aInts x.2.2])]]⟩)], [51, 50, 0]⟩) (μ := fun i => (ns.getD k nd0).2.2.length - i.1) ⟨0, Nat.zero_le _⟩ ?_ (fun ⟨j, hj⟩ => ?_)
  ·(refine weak_id rfl ?_ ?_ <;> ((try simp only [List.mem_cons, List.not_mem_nil, or_false, forall_eq_or_imp, forall_eq]); (try simp (disch := omega) [i64w, *])))
  dsimp only
  replace hacc := hacc j
  replace hin := hin j
  generalize hA : accV (ns.getD k nd0) O j = A at hacc ⊢
  clear hacc0
  refine amStr (h := ?_)
  refine amReg PT207_ok (h := ?_)
  refine amStr (h := ?_)
  (focus ((with_reducible refine sp_cond (b := ?_) ?_ (fun hc => ?_) (fun hc => ?_)); rotate_left; (focus (first | rfl | (simp [lk, AS.ev]; rfl))); all_goals (try simp at hc)))
  ·have hjj := hc
   clear hc
   replace hacc := hacc hjj
   obtain ⟨m, hm1, hm2⟩ := hin hjj
   rw [hm1, Int.toNat_natCast] at hacc
   have hmO : m < O.length := by omega
   obtain ⟨_, _, e1, e2, _⟩ := lo_op A (O.getD m 0#128)
   clear hin hfm
   refine amGo PT207_ok (h := ?_)
   refine k_lp (⟨j + 1, by omega⟩ : {j : Nat // j ≤ (ns.getD k nd0).2.2.length}) (by first | omega | (dsimp only; omega)) ?_
   (refine weak_id rfl ?_ ?_ <;> ((try simp only [List.mem_cons, List.not_mem_nil, or_false, forall_eq_or_imp, forall_eq]); (try simp (disch := omega) [i64w, *])))
  ·obtain rfl : j = (ns.getD k nd0).2.2.length := by omega
   rw [hA] at htk
   clear hacc hin
   have hcap : (k + 1) * 16 ≤ 140737488355328 := by omega
   refine amGo PT207_ok (h := ?_)
   refine k_lp (⟨k + 1, by omega⟩ : {k : Nat // k ≤ ns.length}) (by first | omega | (dsimp only; omega)) ?_
   (refine weak_of (fun q => if q = 50 then 55 else q) ⟨rfl, ?_, ?_, ?_⟩ <;> ((try simp only [List.mem_cons, List.not_mem_nil, or_false, forall_eq_or_imp, forall_eq]); (try simp (disch := omega) [lk, AV.ids, idsL, idsLL, AV.ren, renL, renLL, i64w, *])))
 ·obtain rfl : k = ns.length := by omega
  rw [List.take_length] at hgo
  rw [hgo]
  clear htk
  refine amGo PT207_ok (h := ?_)
  (refine amRt Tryz.results39 (h := ?_); try simp [*])
  rw [← hO, take_map_len]
  exact ⟨d_ids_aSets O, rfl⟩
@[simp] def g_r20Vars : List AV → Option (AV × Bool)
 | [.agg [.v (.int .i64 N), a0]] => (match toNds a0 with | some ns => if (okI N && okNs ns) = true then some (varsAS N ns, false) else none | none => none)
 | _ => none
theorem e_r20Vars : EntOk Tryz.prog 39 g_r20Vars := ent_pure (by kernel_rfl) fun args r fr h => by
 unfold g_r20Vars at h
 split at h
 ·rename_i N a0
  split at h
  ·rename_i ns t0
   split at h
   ·rename_i hc
    simp only [Bool.and_eq_true] at hc
    obtain ⟨m0, o0⟩ := hc
    cases h
    exact ⟨FnPure.cov (r20Vars_p N ns m0 o0) (.cons (cov_th _ (cov_nds t0)) .nil), rfl⟩
   ·cases h
  ·cases h
 ·cases h

def l230 : List (FuncId × (List AV → Option (AV × Bool))) :=
 (39, g_r20Vars) :: l207
theorem l230_ok : ∀ p ∈ l230, EntOk Tryz.prog p.1 p.2 := ent_cons e_r20Vars (l207_ok)
def PT230 : PTab := tab l230
theorem PT230_ok : PTok Tryz.prog PT230 := tab_ok l230_ok
@[simp] theorem PT230_r20Vars : PT230 39 = g_r20Vars := rfl
@[simp] theorem PT230_old (f : FuncId) (h : decide (f ≠ 39) = true) : PT230 f = PT207 f := tab_old (of_decide_eq_true h)
end Go.Proofs.YtllkogdgmmcfgaaGreatDoor
