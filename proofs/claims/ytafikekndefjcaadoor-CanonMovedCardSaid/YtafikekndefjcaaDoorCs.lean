/- canon.Small as a function that returns a theory of its own; no condition. -/
import Derived.Test.YtafikekndefjcaaDoorOb7
import Derived.Test.YtafikekndefjcaaDoorWa
import Derived.Test.YtafikekndefjcaaDoorOb5
import Derived.Test.YtafikekndefjcaaDoorObP
import Derived.Test.YtafikekndefjcaaDoorSp
import Derived.Test.YtafikekndefjcaaDoorSpo
namespace Go.Proofs.YtafikekndefjcaaDoor
set_option linter.unusedVariables false
set_option linter.unusedSimpArgs false
set_option linter.unusedSectionVars false
open Go.RowKit
attribute [local simp] List.getD_cons_zero List.getD_cons_succ List.getD_nil undef gvars runL runE effA stepA dstOk wantA core lk st dl AS.ev AS.evs AS.put AS.upd updO updI nxt cPick cAlloc cBox cBuild cBuildS cLoad cStore cNil plainOf cBin cNilS isNilS nilA cUn cConvX cConvB cConv bytesOf rowB cMake cSlice slA idxA cFA cF cIA cIX cIS cI cExt cLen cApp cMM cFun cCall lenA lenM isNilM nilM cNilM cMakeM hintB cMapK cLook foundR lookR cUpd putM cDel delM findA isKeyB Instr.sameNow AS.entry AS.bound AS.callee sc1 sc2 ixOk ldA AV.flat AV.cell AV.cells Value.oneCell' fillA spl chunk zeros AS.parts AS.rows AS.shut AS.shut1 AS.shut2 AS.shutL AS.shutM AV.ids idsL idsLL eqAll bndA AV.scalar AV.scalar1 AV.isV Ef.app Ef.pk ptOf pntO wrO wr
attribute [-simp] List.getD_eq_getElem?_getD
@[simp] def g_vList : List AV → Option (AV × Bool)
  | [a0] => (match toSet a0 with | some s => if (true) = true then some (aInts (listS s), false) else none | none => none)
  | _ => none
theorem e_vList : EntOk Tryd.prog 35 g_vList := ent_pure (by kernel_rfl) fun args r fr h => by
  unfold g_vList at h
  split at h
  · rename_i a0
    split at h
    · rename_i s t0
      split at h
      · rename_i hc
        cases h
        exact ⟨FnPure.cov (vList_p s) (.cons (toSet_inv t0 ▸ Cov.refl _) .nil), rfl⟩
      · cases h
    · cases h
  · cases h

def l80 : List (FuncId × (List AV → Option (AV × Bool))) :=
  (35, g_vList) :: l16
theorem l80_ok : ∀ p ∈ l80, EntOk Tryd.prog p.1 p.2 := ent_cons e_vList (l16_ok)
def PT80 : PTab := tab l80
theorem PT80_ok : PTok Tryd.prog PT80 := tab_ok l80_ok
@[simp] theorem PT80_litVar : PT80 37 = g_litVar := rfl
@[simp] theorem PT80_litValid : PT80 60 = g_litValid := rfl
@[simp] theorem PT80_check : PT80 41 = g_check := rfl
@[simp] theorem PT80_with : PT80 55 = g_with := rfl
@[simp] theorem PT80_all : PT80 43 = g_all := rfl
@[simp] theorem PT80_rValid : PT80 75 = g_rValid := rfl
@[simp] theorem PT80_rHas : PT80 40 = g_rHas := rfl
@[simp] theorem PT80_rCheck : PT80 56 = g_rCheck := rfl
@[simp] theorem PT80_litvalid : PT80 66 = g_litvalid := rfl
@[simp] theorem PT80_opposite : PT80 68 = g_opposite := rfl
@[simp] theorem PT80_clone : PT80 81 = g_clone := rfl
@[simp] theorem PT80_order : PT80 67 = g_order := rfl
@[simp] theorem PT80_clause : PT80 48 = g_clause := rfl
@[simp] theorem PT80_equal : PT80 52 = g_equal := rfl
@[simp] theorem PT80_distinct : PT80 51 = g_distinct := rfl
@[simp] theorem PT80_normal : PT80 34 = g_normal := rfl
@[simp] theorem PT80_rContains : PT80 76 = g_rContains := rfl
@[simp] theorem PT80_rSameInts : PT80 18 = g_rSameInts := rfl
@[simp] theorem PT80_rAbs : PT80 59 = g_rAbs := rfl
@[simp] theorem PT80_rBefore : PT80 77 = g_rBefore := rfl
@[simp] theorem PT80_rSorted : PT80 57 = g_rSorted := rfl
@[simp] theorem PT80_rPut : PT80 58 = g_rPut := rfl
@[simp] theorem PT80_rNormal : PT80 38 = g_rNormal := rfl
@[simp] theorem PT80_place : PT80 74 = g_place := rfl
@[simp] theorem PT80_vHas : PT80 79 = g_vHas := rfl
@[simp] theorem PT80_vMinus : PT80 61 = g_vMinus := rfl
@[simp] theorem PT80_vSub : PT80 42 = g_vSub := rfl
@[simp] theorem PT80_litHolds : PT80 64 = g_litHolds := rfl
@[simp] theorem PT80_litAny : PT80 44 = g_litAny := rfl
@[simp] theorem PT80_thEval : PT80 24 = g_thEval := rfl
@[simp] theorem PT80_rSame : PT80 17 = g_rSame := rfl
@[simp] theorem PT80_thVars : PT80 36 = g_thVars := rfl
@[simp] theorem PT80_rVars : PT80 39 = g_rVars := rfl
@[simp] theorem PT80_light : PT80 12 = g_light := rfl
@[simp] theorem PT80_vList : PT80 35 = g_vList := rfl
set_option maxRecDepth 100000
attribute [local simp] AV.ren renL obI shO_cons lk_st lk_dl renLL_append
def nmK (names : List Int) (k : Nat) : List AV := fnRow 129 fun i => .v (.int .i64 ((numK names k).getD i 0))
@[simp ↓ high] theorem d_nm_len (names : List Int) (k : Nat) : (nmK names k).length = 129 := d_len_fn _ _
@[simp ↓ high] theorem d_nm_ids (names : List Int) (k : Nat) : idsL (nmK names k) = [] := idsL_fn fun _ => rfl
@[simp ↓ high] theorem d_nm_ren (ρ : Nat → Nat) (names : List Int) (k : Nat) : renL ρ (nmK names k) = nmK names k := renL_fn ρ fun _ => rfl
theorem d_nm_spl {names : List Int} {k j : Nat} (hj : (names.getD k 0).toNat = j) (hj2 : j < 129) : spl (nmK names k) j [.v (.int .i64 ((k : Int) + 1))] = nmK names (k + 1) := by
  unfold nmK
  rw [fn_spl _ hj2]
  congr 1
  funext i
  have hl := numK_len names k
  rw [numK, hj]
  by_cases e : i = j
  · subst e
    rw [if_pos rfl]
    simp [List.getD, hl, hj2]
  · rw [if_neg e]
    simp [List.getD, List.getElem?_set, Ne.symm e]
theorem d_nm_ld {ti : TI} {names : List Int} {k j : Nat} (hg : ti.agg = false) (hj : j < 129) : ldA ti (List.drop j (nmK names k)) = .v (.int .i64 ((numK names k).getD j 0)) := ld_fn hg hj
theorem nmK_zero (names : List Int) : nmK names 0 = List.replicate 129 (.v (.int .i64 0)) := by kernel_rfl
/-! ### Rows that are overwritten one by one -/
def mixR (f : Int → Int) (c : List Int) (k : Nat) : List Int := (c.take k).map f ++ c.drop k
theorem mixR_len (f : Int → Int) (c : List Int) (k : Nat) : (mixR f c k).length = c.length := by simp only [mixR, List.length_append, List.length_map, List.length_take, List.length_drop]; omega
theorem mixR_zero (f : Int → Int) (c : List Int) : mixR f c 0 = c := by simp [mixR]
theorem mixR_full (f : Int → Int) (c : List Int) : mixR f c c.length = c.map f := by simp [mixR]
theorem mixR_get (f : Int → Int) (c : List Int) {k : Nat} (hk : k < c.length) : (mixR f c k).getD k 0 = c.getD k 0 := by
  simp only [mixR, List.getD]
  rw [List.getElem?_append_right (by simp only [List.length_map, List.length_take]; omega)]
  rw [List.length_map, List.length_take, Nat.min_eq_left (Nat.le_of_lt hk), Nat.sub_self, List.getElem?_drop, Nat.add_zero]
theorem mixR_set (f : Int → Int) (c : List Int) {k : Nat} (hk : k < c.length) (y : Int) (hy : y = f (c.getD k 0)) : (mixR f c k).set k y = mixR f c (k + 1) := by
  have hlen : ((c.take k).map f).length = k := by simp; omega
  have e : c.getD k 0 = c[k] := by simp [List.getD, hk]
  unfold mixR
  rw [List.set_append_right _ _ (by omega), hlen, Nat.sub_self, List.drop_eq_getElem_cons hk, List.set_cons_zero, List.take_succ_eq_append_getElem hk, List.map_append, hy, e, List.append_assoc]
  rfl
theorem mixR_set2 (f : Int → Int) (c : List Int) {k : Nat} (x y : Int) : ((mixR f c k).set k x).set k y = (mixR f c k).set k y := List.set_set ..
def mixL (f : Int → Int) (M : List (List Int)) (i k : Nat) : List (List Int) := (List.range M.length).map fun j => if j < i then (M.getD j []).map f else if j = i then mixR f (M.getD i []) k else M.getD j []
theorem mixL_len (f : Int → Int) (M : List (List Int)) (i k : Nat) : (mixL f M i k).length = M.length := by simp [mixL]
theorem mixL_get (f : Int → Int) (M : List (List Int)) (i k : Nat) {j : Nat} (hj : j < M.length) : (mixL f M i k).getD j [] = if j < i then (M.getD j []).map f else if j = i then mixR f (M.getD i []) k else M.getD j [] := by
  simp [mixL, List.getD, hj]
theorem mixL_rowlen (f : Int → Int) (M : List (List Int)) (i k : Nat) {j : Nat} (hj : j < M.length) : ((mixL f M i k).getD j []).length = (M.getD j []).length := by
  rw [mixL_get f M i k hj]
  split
  · simp
  · split
    · rename_i e; subst e; exact mixR_len _ _ _
    · rfl
theorem mixL_zero (f : Int → Int) (M : List (List Int)) : mixL f M 0 0 = M := by
  refine rows_eq_of (mixL_len ..) fun j hj => ?_
  rw [mixL_len] at hj
  rw [mixL_get f M 0 0 hj, if_neg (by omega)]
  split
  · rename_i e; subst e; exact mixR_zero _ _
  · rfl
theorem mixL_next (f : Int → Int) (M : List (List Int)) (i : Nat) : mixL f M i (M.getD i []).length = mixL f M (i + 1) 0 := by
  refine rows_eq_of (by rw [mixL_len, mixL_len]) fun j hj => ?_
  rw [mixL_len] at hj
  rw [mixL_get f M i _ hj, mixL_get f M (i + 1) 0 hj]
  by_cases h1 : j < i
  · rw [if_pos h1, if_pos (by omega)]
  · rw [if_neg h1]
    by_cases h2 : j = i
    · subst h2; rw [if_pos rfl, if_pos (by omega), mixR_full]
    · rw [if_neg h2, if_neg (by omega)]
      split
      · rename_i e; rw [e, mixR_zero]
      · rfl
theorem mixL_full (f : Int → Int) (M : List (List Int)) : mixL f M M.length 0 = M.map fun c => c.map f := by
  refine rows_eq_of (by rw [mixL_len, List.length_map]) fun j hj => ?_
  rw [mixL_len] at hj
  rw [mixL_get f M _ _ hj, if_pos hj]
  simp [List.getD, hj]
theorem mixL_set (f : Int → Int) (M : List (List Int)) {i k : Nat} (hi : i < M.length) {j : Nat} (hj : j < M.length) {y : List Int} (hy : y = mixR f (M.getD i []) (k + 1)) : (if j = i then y else (mixL f M i k).getD j []) = (mixL f M i (k + 1)).getD j [] := by
  rw [mixL_get f M i _ hj, mixL_get f M i _ hj]
  by_cases h1 : j = i
  · subst h1; rw [if_pos rfl, if_neg (by omega), if_pos rfl]; exact hy
  · rw [if_neg h1]
    by_cases h2 : j < i
    · rw [if_pos h2, if_pos h2]
    · rw [if_neg h2, if_neg h2, if_neg h1, if_neg h1]
def resS (n : Int) (D : List (List Int)) (names : List Int) : AV := .tup [.agg [.v (.int .i64 n), .ref 0 0 D.length], aInts names, .v (.int .i64 0)]
theorem post_S {TT : TTab} {fn : Func} {N : Int} {D : List (List Int)} {names : List Int} {o b : Nat} {e : Exit} {σ : AS} {rs : List ResultVar} (he : e = .normal ∨ e = .ret) (hr : fn.results.toList = rs) (h1 : retA TT σ rs = some (.tup [.agg [.v (.int .i64 N), .ref o 0 D.length], aInts names, .v (.int .i64 0)]))
    (ho : lk σ.objs o = some ⟨28, 1, refsI b D⟩) (hf : ∀ j, j < D.length → lk σ.objs (b + j) = some (obI (D.getD j []))) (hob : o < b) : PostO TT fn (resS N D names) (objT D) e σ := by
  have hn : idsLL (names.map fun x => [AV.v (.int .i64 x)]) = [] := ids_ints _
  refine post_obj he hr h1 (fun k => if k = 0 then o else b + (k - 1)) ?_ (fun k ob hk => ?_) (fun k ob k' ob' hk hk' e => ?_)
  · simp only [resS, AV.ren, renL, if_true, aInts]
    rw [renLL_pure _ _ hn]
  · rcases objT_key hk with ⟨rfl, rfl⟩ | ⟨j, hj, rfl, rfl⟩
    · rw [if_pos rfl, ho]
      dsimp only
      rw [ren_refsI (fun k => if k = 0 then o else b + (k - 1)) 1 b D D rfl (fun j _ => by rw [if_neg (by omega), show 1 + j - 1 = j by omega]) (fun _ _ => rfl)]
    · rw [if_neg (by omega), show 1 + j - 1 = j by omega, hf j hj]
      simp [obI]
  · replace e : (if k = 0 then o else b + (k - 1)) = if k' = 0 then o else b + (k' - 1) := e
    rcases objT_key hk with ⟨rfl, _⟩ | ⟨j, hj, rfl, _⟩ <;> rcases objT_key hk' with ⟨rfl, _⟩ | ⟨i, hi, rfl, _⟩
    · rfl
    · rw [if_pos rfl, if_neg (by omega)] at e; omega
    · rw [if_pos rfl, if_neg (by omega)] at e; omega
    · rw [if_neg (by omega), if_neg (by omega)] at e; omega
set_option maxHeartbeats 4000000 in
theorem small_obj (N : Int) (L : List (List Int)) (hN : okI N = true) (h : okRows L = true) (hz : checkT N L = 0) : FnObj Tryd.prog 15 [aTh N L] (resS (smallN (normL L)).length (smallL (normL L)) (smallN (normL L))) (objT (smallL (normL L))) (idsT (smallL (normL L))) := by
  have hno := normal_obj N L hN h hz
  have hz2 := normL_check hz
  have hgood := fun c (hc : c ∈ normL L) => good_vars hz2 hc
  generalize normL L = Z at hno hz2 hgood ⊢
  have hZr := okRows_check hz2
  have hZl := okRows_len hZr
  have hvO : varsOf N Z = varsT Z := by unfold varsOf; rw [if_pos hz2]
  have hNm := names_listS (varsT Z)
  have hR := ren_small (varsT Z)
  have hnl := names_len hNm
  unfold smallL smallN smallR
  obtain ⟨names, hnm⟩ : ∃ names, listS (varsT Z) = names := ⟨_, rfl⟩
  rw [hnm] at hNm hR hnl ⊢
  unfold resT objT idsT at hno
  unfold aTh at hno ⊢
  refine fn_obj TT_ok Tryd.func15 (c := _) rfl (by simp [Tryd.ntmps15]) (within_T _ fun k hk => ?_) (fun B hI0 hro => ?_)
  · simp only [resS, AV.ids, idsL, aInts, List.append_nil, List.mem_append, List.mem_singleton, List.nil_append] at hk
    rw [show idsLL (names.map fun x => [AV.v (.int .i64 x)]) = [] from ids_ints _] at hk
    simpa using hk
  rw [Tryd.ntmps15]
  simp only [enumA]
  refine amStr (h := ?_)
  refine amReg PT80_ok (h := ?_)
  refine amStr (h := ?_)
  refine s_regionL ?_
  ((iterate 1 (((with_reducible refine spl_step TT_ok PT80_ok (id := 0) (σ' := ?_) ?_ ?_); rotate_left; (focus (simp [*]; rfl))))))
  refine spl_obj hno 1000 (by simp) rfl rfl (enters_ok (avs := [.agg [.v (.int .i64 N), aRows L]]) (cs := []) rfl (by kernel_rfl) rfl rfl) (by simp [idsL, AV.ids]) (fun c h => by cases h) ?_
  simp only [shO_cons, shO_famI, ren_refsI_add, List.map_cons, List.cons_append]
  refine spl_famE (by simp) ?_
  (refine spl_eq (τ := ?_) ?_ ?_; rotate_left; (focus ((try simp only [AS.frz, List.map_cons, List.map_nil]); (try simp [frzV, frzO, frzC, List.filter]); rfl)))
  ((iterate 3 (((with_reducible refine spl_step TT_ok PT80_ok (id := 0) (σ' := ?_) ?_ ?_); rotate_left; (focus (simp [*]; rfl))))))
  (((with_reducible refine spl_step TT_ok PT80_ok (id := 5) (σ' := ?_) ?_ ?_); rotate_left; (focus (simp [*]; rfl))))
  ((iterate 2 (((with_reducible refine spl_step TT_ok PT80_ok (id := 0) (σ' := ?_) ?_ ?_); rotate_left; (focus (simp [*]; rfl))))))
  refine spl_nil ?_
  refine amStr (h := ?_)
  refine s_weak ⟨77, [(1, .ptr 0 0 0), (2, .ptr 1 0 0), (3, .v (.slice none 0 0)), (4, .v (.int .i64 0)), (5, .ptr 5 0 0), (6, .v (.int .i64 0))], [(0, ⟨24, 2, [[.v (.int .i64 N), aRows L]]⟩), (1, ⟨24, 2, [[.v (.int .i64 0), .v (.slice none 0 0)]]⟩), (5, ⟨24, 2, [[.v (.int .i64 N), .ref 1000 0 Z.length]]⟩), (1000, ⟨28, 1, refsI 1001 Z⟩)] ++ fam 1001 Z, [1000, 5, 1, 0] ++ List.range' 1001 Z.length⟩ ?ww ?_
  case ww =>
    (refine weak_fam (fun q => q) rfl ?_ ?_ ?_ ?_ ?_ ?_ <;> ((try simp only [List.mem_cons, List.not_mem_nil, or_false, forall_eq_or_imp, forall_eq]); (try simp (disch := omega) [lk, AV.ids, idsL, idsLL, AV.ren, renL, renLL, i64w, *])))
    · exact ⟨(renLL_id _).symm, fun q hq => .inr (ids_refsI 1001 Z hq)⟩
    · intro j hj
      repeat rw [if_neg (by omega)]
      exact lk_fam_add hj
    · repeat' apply And.intro
      all_goals (intro j hj; omega)
  refine s_regionL ?_
  ((iterate 2 (((with_reducible refine spl_step TT_ok PT80_ok (id := 0) (σ' := ?_) ?_ ?_); rotate_left; (focus (simp [*]; rfl))))))
  refine spl_nil ?_
  refine amStr (h := ?_)
  refine s_regionL ?_
  ((iterate 1 (((with_reducible refine spl_step TT_ok PT80_ok (id := 0) (σ' := ?_) ?_ ?_); rotate_left; (focus (simp [*]; rfl))))))
  refine spl_op (s := (aSet (varsT Z), [])) rfl rfl (ok_call_all (f := 36) (bvs := [aTh N Z]) (enters_ok (avs := [.agg [.v (.int .i64 N), .ref 1000 0 Z.length]]) (cs := []) rfl (by kernel_rfl) rfl rfl) rfl (fun B G w a hr i v hi hv => ?_) (hvO ▸ thVars_p N Z hN hZr) rfl) ?_
  · match i, hi with
    | 0, _ =>
      refine read_th hr (k := 1000) (b := 1001) (t := 28) rfl (fun j hj => ?_) hv
      simp only [lk, List.cons_append, List.nil_append]
      repeat rw [if_neg (by omega)]
      exact lk_fam_add hj
  ((iterate 2 (((with_reducible refine spl_step TT_ok PT80_ok (id := 0) (σ' := ?_) ?_ ?_); rotate_left; (focus (simp [*]; rfl))))))
  refine spl_nil ?_
  refine amStr (h := ?_)
  refine s_regionL ?_
  (((with_reducible refine spl_step TT_ok PT80_ok (id := 8) (σ' := ?_) ?_ ?_); rotate_left; (focus (simp [*]; rfl))))
  refine spl_nil ?_
  refine amStr (h := ?_)
  refine s_regionL ?_
  ((iterate 3 (((with_reducible refine spl_step TT_ok PT80_ok (id := 0) (σ' := ?_) ?_ ?_); rotate_left; (focus (simp [*]; rfl))))))
  refine spl_nil ?_
  refine amStr (h := ?_)
  refine s_loop (J := fun i : {k : Nat // k ≤ names.length} => ⟨77, [(2, .ptr 1 0 0), (5, .ptr 5 0 0), (7, aInts names), (8, .ptr 8 0 0), (27, aInts names), (28, .v (.int .i64 (names.length : Int))), (29, .v (.int .i64 (i.1 : Int)))], [(1, ⟨24, 2, [[.v (.int .i64 0), .v (.slice none 0 0)]]⟩), (5, ⟨24, 2, [[.v (.int .i64 N), .ref 1000 0 Z.length]]⟩), (1000, ⟨28, 1, refsI 1001 Z⟩), (8, ⟨81, 129, [nmK names i.1]⟩)] ++ fam 1001 Z, [1000, 8, 5, 1] ++ List.range' 1001 Z.length⟩) (μ := fun i => names.length - i.1) ⟨0, Nat.zero_le _⟩ ?_ (fun ⟨k, hk⟩ => ?_)
  · (refine weak_fam (fun q => q) rfl ?_ ?_ ?_ ?_ ?_ ?_ <;> ((try simp only [List.mem_cons, List.not_mem_nil, or_false, forall_eq_or_imp, forall_eq]); (try simp (disch := omega) [lk, AV.ids, idsL, idsLL, AV.ren, renL, renLL, i64w, *])))
    · exact ⟨⟨(renLL_id _).symm, fun q hq => .inr (ids_refsI 1001 Z hq)⟩, (nmK_zero names).symm⟩
    · intro j hj
      repeat rw [if_neg (by omega)]
      exact lk_fam_add hj
    · repeat' apply And.intro
      all_goals (intro j hj; omega)
  refine amStr (h := ?_)
  refine s_regionL ?_
  ((iterate 1 (((with_reducible refine spl_step TT_ok PT80_ok (id := 0) (σ' := ?_) ?_ ?_); rotate_left; (focus (simp [*]; rfl))))))
  refine spl_nil ?_
  refine amStr (h := ?_)
  (focus ((with_reducible refine sp_cond (b := ?_) ?_ (fun hc => ?_) (fun hc => ?_)); rotate_left; (focus (first | rfl | (simp [lk, AS.ev]; rfl))); all_goals (try simp at hc)))
  · have hkk := hc
    clear hc
    obtain ⟨x1, x2⟩ := hNm.r _ (getD_memI hkk)
    have hs := d_nm_spl (names := names) (k := k) (j := (names.getD k 0).toNat) rfl (by omega)
    obtain ⟨x, hx⟩ : ∃ x, names.getD k 0 = x := ⟨_, rfl⟩
    rw [hx] at x1 x2 hs
    have x0 : 0 ≤ x := by omega
    have hmx : max x 0 = x := by omega
    have hx3 : x.toNat < 129 := by omega
    have hx4 : x < 129 := by omega
    have hw : IntKind.i64.wrap ((k : Int) + 1) = (k : Int) + 1 := i64s k (by omega)
    refine amStr (h := ?_)
    refine s_regionL ?_
    ((iterate 5 (((with_reducible refine spl_step TT_ok PT80_ok (id := 0) (σ' := ?_) ?_ ?_); rotate_left; (focus (simp [*]; rfl))))))
    refine spl_nil ?_
    refine amStr (h := ?_)
    refine s_regionL ?_
    ((iterate 5 (((with_reducible refine spl_step TT_ok PT80_ok (id := 0) (σ' := ?_) ?_ ?_); rotate_left; (focus (simp [*]; rfl))))))
    refine spl_nil ?_
    refine amStr (h := ?_)
    refine s_regionL ?_
    ((iterate 2 (((with_reducible refine spl_step TT_ok PT80_ok (id := 0) (σ' := ?_) ?_ ?_); rotate_left; (focus (simp [*]; rfl))))))
    refine spl_nil ?_
    refine amStr (h := ?_)
    refine k_lp (⟨k + 1, by omega⟩ : {k : Nat // k ≤ names.length}) (by dsimp only; omega) ?_
    (refine weak_fam (fun q => q) rfl ?_ ?_ ?_ ?_ ?_ ?_ <;> ((try simp only [List.mem_cons, List.not_mem_nil, or_false, forall_eq_or_imp, forall_eq]); (try simp (disch := omega) [lk, AV.ids, idsL, idsLL, AV.ren, renL, renLL, i64w, *])))
    · refine ⟨⟨(renLL_id _).symm, fun q hq => .inr (ids_refsI 1001 Z hq)⟩, ?_⟩
      simp only [spl, List.append_assoc, List.singleton_append, List.length_cons, List.length_nil, Nat.zero_add] at hs
      exact hs
    · intro j hj
      repeat rw [if_neg (by omega)]
      exact lk_fam_add hj
    · repeat' apply And.intro
      all_goals (intro j hj; omega)
  · obtain rfl : k = names.length := by omega
    clear hc
    have same : ∀ (σ : AS) (slots : List (Nat × AV)) (i : Nat) (X : List (List Int)), σ.n = 77 → X.length = Z.length → (∀ p ∈ slots, lk σ.slots p.1 = some p.2 ∧ ∀ q ∈ p.2.ids, q ∈ [1001 + i, 1000, 8, 5, 1]) → lk σ.objs 1 = some ⟨24, 2, [[.v (.int .i64 0), .v (.slice none 0 0)]]⟩ → lk σ.objs 5 = some ⟨24, 2, [[.v (.int .i64 N), .ref 1000 0 Z.length]]⟩ → lk σ.objs 1000 = some ⟨28, 1, refsI 1001 Z⟩ → lk σ.objs 8 = some ⟨81, 129, [nmK names names.length]⟩ → (∀ j, j < Z.length → lk σ.objs (1001 + j) = some (obI (X.getD j []))) →
        Weak σ ⟨77, slots, [(1, ⟨24, 2, [[.v (.int .i64 0), .v (.slice none 0 0)]]⟩), (5, ⟨24, 2, [[.v (.int .i64 N), .ref 1000 0 Z.length]]⟩), (1000, ⟨28, 1, refsI 1001 Z⟩), (8, ⟨81, 129, [nmK names names.length]⟩)] ++ fam 1001 X, [1001 + i, 1000, 8, 5, 1] ++ List.range' 1001 X.length⟩ := by
      intro σ slots i X hn hX hs h1 h5 h10 h8 h3
      refine weak_fam (fun q => q) hn.symm (fun p hp => ?_) (fun p hp => ?_) (fun j hj => ?_) (fun p _ q _ e => e) (fun j _ i _ e => by omega) (fun p hp j _ => ?_)
      · obtain ⟨g1, g2⟩ := hs p hp
        exact ⟨by rw [AV.ren_id]; exact g1, g2⟩
      · simp only [List.mem_cons, List.not_mem_nil, or_false] at hp
        rcases hp with rfl | rfl | rfl | rfl
        · exact ⟨by omega, by rw [h1]; simp [renLL], by simp, fun q hq => by simp [idsLL, idsL, AV.ids] at hq⟩
        · exact ⟨by omega, by rw [h5]; simp [renLL], by simp, fun q hq => by simp [idsLL, idsL, AV.ids] at hq; subst hq; simp⟩
        · refine ⟨by omega, ?_, by simp, fun q hq => .inr ?_⟩
          · rw [h10]; dsimp only; rw [renLL_id]
          · rw [hX]; exact ids_refsI 1001 Z hq
        · refine ⟨by omega, ?_, by simp, fun q hq => ?_⟩
          · rw [h8]; simp [renLL]
          · simp [idsLL] at hq
      · rw [h3 j (by rw [← hX]; exact hj)]
      · simp only [List.mem_cons, List.not_mem_nil, or_false] at hp
        rcases hp with rfl | rfl | rfl | rfl <;> dsimp only <;> omega
    obtain ⟨f, hf⟩ : ∃ f, renl (numOf names) = f := ⟨_, rfl⟩
    refine amStr (h := ?_)
    refine s_regionL ?_
    ((iterate 4 (((with_reducible refine spl_step TT_ok PT80_ok (id := 0) (σ' := ?_) ?_ ?_); rotate_left; (focus (simp [*]; rfl))))))
    refine spl_nil ?_
    refine amStr (h := ?_)
    refine s_loop (J := fun i : {i : Nat // i ≤ Z.length} => ⟨77, [(2, .ptr 1 0 0), (5, .ptr 5 0 0), (7, aInts names), (8, .ptr 8 0 0), (40, .ref 1000 0 Z.length), (41, .v (.int .i64 (Z.length : Int))), (42, .v (.int .i64 (i.1 : Int)))], [(1, ⟨24, 2, [[.v (.int .i64 0), .v (.slice none 0 0)]]⟩), (5, ⟨24, 2, [[.v (.int .i64 N), .ref 1000 0 Z.length]]⟩), (1000, ⟨28, 1, refsI 1001 Z⟩), (8, ⟨81, 129, [nmK names names.length]⟩)] ++ fam 1001 (mixL f Z i.1 0), [1001 + i.1, 1000, 8, 5, 1] ++ List.range' 1001 (mixL f Z i.1 0).length⟩) (μ := fun i => Z.length - i.1) ⟨0, Nat.zero_le _⟩ ?_ (fun ⟨i, hi⟩ => ?_)
    · refine same _ _ 0 _ rfl (mixL_len ..) (by simp [lk, AV.ids]) (by simp [lk]) (by simp [lk]) (by simp [lk]) (by simp [lk]) (fun j hj => ?_)
      rw [mixL_zero]
      simp only [lk, List.cons_append, List.nil_append]
      repeat rw [if_neg (by omega)]
      exact lk_fam_add hj
    refine amStr (h := ?_)
    refine s_regionL ?_
    ((iterate 1 (((with_reducible refine spl_step TT_ok PT80_ok (id := 0) (σ' := ?_) ?_ ?_); rotate_left; (focus (simp [*]; rfl))))))
    refine spl_nil ?_
    refine amStr (h := ?_)
    (focus ((with_reducible refine sp_cond (b := ?_) ?_ (fun hc => ?_) (fun hc => ?_)); rotate_left; (focus (first | rfl | (simp [lk, AS.ev]; rfl))); all_goals (try simp at hc)))
    · have hii := hc
      clear hc
      have hrg := refsI_get (b := 1001) hii
      have hrl := refsI_len 1001 Z
      have hcl := okInts_len (okRows_at hZr i)
      have hgc := hgood _ (getD_memL hii)
      refine amStr (h := ?_)
      refine s_regionL ?_
      ((iterate 3 (((with_reducible refine spl_step TT_ok PT80_ok (id := 0) (σ' := ?_) ?_ ?_); rotate_left; (focus (simp [*]; rfl))))))
      refine spl_nil ?_
      refine amStr (h := ?_)
      refine s_regionL ?_
      ((iterate 3 (((with_reducible refine spl_step TT_ok PT80_ok (id := 0) (σ' := ?_) ?_ ?_); rotate_left; (focus (simp [*]; rfl))))))
      refine spl_nil ?_
      refine amStr (h := ?_)
      refine s_loop (J := fun k : {k : Nat // k ≤ (Z.getD i []).length} => ⟨77, [(2, .ptr 1 0 0), (5, .ptr 5 0 0), (7, aInts names), (8, .ptr 8 0 0), (40, .ref 1000 0 Z.length), (41, .v (.int .i64 (Z.length : Int))), (42, .v (.int .i64 (i : Int))), (12, .ref (1001 + i) 0 (Z.getD i []).length), (46, .ref (1001 + i) 0 (Z.getD i []).length), (47, .v (.int .i64 ((Z.getD i []).length : Int))), (48, .v (.int .i64 (k.1 : Int)))], [(1, ⟨24, 2, [[.v (.int .i64 0), .v (.slice none 0 0)]]⟩), (5, ⟨24, 2, [[.v (.int .i64 N), .ref 1000 0 Z.length]]⟩), (1000, ⟨28, 1, refsI 1001 Z⟩), (8, ⟨81, 129, [nmK names names.length]⟩)] ++ fam 1001 (mixL f Z i k.1), [1001 + i, 1000, 8, 5, 1] ++ List.range' 1001 (mixL f Z i k.1).length⟩) (μ := fun k => (Z.getD i []).length - k.1) ⟨0, Nat.zero_le _⟩ ?_ (fun ⟨k, hk⟩ => ?_)
      · refine same _ _ i _ rfl (mixL_len ..) (by simp [lk, AV.ids]) (by simp [lk]) (by simp [lk]) (by simp [lk]) (by simp [lk]) (fun j hj => ?_)
        simp only [lk, List.cons_append, List.nil_append]
        repeat rw [if_neg (by omega)]
        exact lk_fam_add (by rw [mixL_len]; exact hj)
      refine amStr (h := ?_)
      refine s_regionL ?_
      ((iterate 1 (((with_reducible refine spl_step TT_ok PT80_ok (id := 0) (σ' := ?_) ?_ ?_); rotate_left; (focus (simp [*]; rfl))))))
      refine spl_nil ?_
      refine amStr (h := ?_)
      (focus ((with_reducible refine sp_cond (b := ?_) ?_ (fun hc => ?_) (fun hc => ?_)); rotate_left; (focus (first | rfl | (simp [lk, AS.ev]; rfl))); all_goals (try simp at hc)))
      · have hkk := hc
        clear hc
        obtain ⟨X, hX⟩ : ∃ X, mixL f Z i k = X := ⟨_, rfl⟩
        have hXl : X.length = Z.length := by rw [← hX]; exact mixL_len ..
        have hXi : X.getD i [] = mixR f (Z.getD i []) k := by rw [← hX, mixL_get f Z i k hii, if_neg (by omega), if_pos rfl]
        have hfm := lk_fam_add (b := 1001) (M := X) (j := i) (by omega)
        unfold obI at hfm
        rw [hXi] at hfm
        have hRl := mixR_len f (Z.getD i []) k
        have hRk := mixR_get f (Z.getD i []) hkk
        obtain ⟨l, hl⟩ : ∃ l, (Z.getD i []).getD k 0 = l := ⟨_, rfl⟩
        have hg : sHas (varsT Z) (litVar l) = true := by rw [← hl]; exact hgc _ (getD_memI hkk)
        have hp := hR.rng _ hg
        have hv := (hR.abs hg).2
        have hv2 := hR.pos _ hg
        have hfl : f l = if l < 0 then -(numOf names (litVar l)) else numOf names (litVar l) := by rw [← hf]; rfl
        unfold numOf at hfl hp
        have hld := d_nm_ld (ti := TI.mk 1 false [] (.plain .bool) none) (names := names) (k := names.length) (j := (litVar l).toNat) rfl (by omega)
        simp only [ldA, Bool.false_eq_true, if_false] at hld
        obtain ⟨R, hR2⟩ : ∃ R, mixR f (Z.getD i []) k = R := ⟨_, rfl⟩
        rw [hR2] at hXi hfm hRl hRk
        rw [hl] at hRk
        obtain ⟨m, hm⟩ : ∃ m, (numK names names.length).getD (litVar l).toNat 0 = m := ⟨_, rfl⟩
        rw [hm] at hfl hp hld
        rw [hX]
        have hki : k < R.length := by omega
        have hokl : okI l = true := okI_iff.2 ⟨by omega, by omega⟩
        have hn0 : ¬ 1 = 1001 + i := by omega
        have hn5 : ¬ 5 = 1001 + i := by omega
        have hn8 : ¬ 8 = 1001 + i := by omega
        have hn10 : ¬ 1000 = 1001 + i := by omega
        have hv0 : 0 ≤ litVar l := by omega
        have hvm : max (litVar l) 0 = litVar l := by omega
        have hv4 : litVar l < 129 := by omega
        refine amStr (h := ?_)
        refine s_regionL ?_
        ((iterate 5 (((with_reducible refine spl_step TT_ok PT80_ok (id := 0) (σ' := ?_) ?_ ?_); rotate_left; (focus (simp [*]; rfl))))))
        refine spl_nil ?_
        refine amStr (h := ?_)
        refine s_regionL ?_
        ((iterate 8 (((with_reducible refine spl_step TT_ok PT80_ok (id := 0) (σ' := ?_) ?_ ?_); rotate_left; (focus (simp [*]; rfl))))))
        refine spl_nil ?_
        refine amStr (h := ?_)
        have hw1 : IntKind.i64.wrap ((k : Int) + 1) = (k : Int) + 1 := i64s k (by omega)
        have hmi : IntKind.i64.wrap (-m) = -m := i64w (by omega) (by omega)
        refine s_weak ⟨77, [(2, .ptr 1 0 0), (5, .ptr 5 0 0), (7, aInts names), (8, .ptr 8 0 0), (40, .ref 1000 0 Z.length), (41, .v (.int .i64 (Z.length : Int))), (42, .v (.int .i64 (i : Int))), (12, .ref (1001 + i) 0 (Z.getD i []).length), (46, .ref (1001 + i) 0 (Z.getD i []).length), (47, .v (.int .i64 ((Z.getD i []).length : Int))), (48, .v (.int .i64 (k : Int))), (13, .v (.int .i64 (k : Int))), (14, .v (.int .i64 l))], [(1, ⟨24, 2, [[.v (.int .i64 0), .v (.slice none 0 0)]]⟩), (5, ⟨24, 2, [[.v (.int .i64 N), .ref 1000 0 Z.length]]⟩), (1000, ⟨28, 1, refsI 1001 Z⟩), (8, ⟨81, 129, [nmK names names.length]⟩)] ++ fam 1001 (X.set i (R.set k m)), [1001 + i, 1000, 8, 5, 1] ++ List.range' 1001 (X.set i (R.set k m)).length⟩ ?_ ?_
        · refine same _ _ i _ rfl (by rw [List.length_set, hXl]) (by simp [lk, AV.ids]) (by simp [lk, hn0]) (by simp [lk, hn5]) (by simp [lk, hn10]) (by simp [lk, hn8]) (fun j hj => ?_)
          simp only [lk, List.cons_append, List.nil_append, lk_st]
          repeat rw [if_neg (by omega)]
          by_cases e : j = i
          · subst e
            rw [if_pos rfl]
            simp [List.getD, hXl, hii, obI, List.map_set]
          · rw [if_neg (by omega), lk_fam_add (by rw [hXl]; exact hj)]
            simp [List.getD, List.getElem?_set, Ne.symm e]
        refine s_regionL ?_
        ((iterate 2 (((with_reducible refine spl_step TT_ok PT80_ok (id := 0) (σ' := ?_) ?_ ?_); rotate_left; (focus (simp [*]; rfl))))))
        refine spl_nil ?_
        have hfin : ∀ (X' : List (List Int)) (j : Nat), j < Z.length → X' = X.set i (R.set k (f l)) → X'.getD j [] = (mixL f Z i (k + 1)).getD j [] := fun X' j hj e => by
          rw [← mixL_set f Z hii hj (y := R.set k (f l)) (k := k) (by rw [← hR2]; exact mixR_set f _ hkk _ (by rw [hl])), hX, e]
          by_cases e2 : j = i
          · subst e2; rw [if_pos rfl]; simp [List.getD, hXl, hii]
          · rw [if_neg e2]; simp [List.getD, List.getElem?_set, Ne.symm e2]
        have hXi2 : (X.set i (R.set k m)).getD i [] = R.set k m := by simp [List.getD, hXl, hii]
        have hfm2 := lk_fam_add (b := 1001) (M := X.set i (R.set k m)) (j := i) (by rw [List.length_set]; omega)
        unfold obI at hfm2
        rw [hXi2] at hfm2
        have hRl2 : (R.set k m).length = (Z.getD i []).length := by rw [List.length_set, hRl]
        have hRk2 : (R.set k m).getD k 0 = m := by simp [List.getD, hki]
        have hX2l : (X.set i (R.set k m)).length = Z.length := by rw [List.length_set, hXl]
        have hset : (X.set i (R.set k m)).set i ((R.set k m).set k (-m)) = X.set i (R.set k (-m)) := by rw [List.set_set, List.set_set]
        by_cases hl0 : l < 0
        · rw [if_pos hl0] at hfl
          rw [hfl] at hfin
          generalize X.set i (R.set k m) = X2 at hfm2 hX2l hset ⊢
          generalize R.set k m = R2 at hfm2 hRl2 hRk2 hset ⊢
          have hki2 : k < R2.length := by omega
          refine amStr (h := ?_)
          refine s_regionL ?_
          ((iterate 9 (((with_reducible refine spl_step TT_ok PT80_ok (id := 0) (σ' := ?_) ?_ ?_); rotate_left; (focus (simp [*]; rfl))))))
          refine spl_nil ?_
          refine amStr (h := ?_)
          refine s_regionL ?_
          ((iterate 2 (((with_reducible refine spl_step TT_ok PT80_ok (id := 0) (σ' := ?_) ?_ ?_); rotate_left; (focus (simp [*]; rfl))))))
          refine spl_nil ?_
          refine amStr (h := ?_)
          refine k_lp (⟨k + 1, by omega⟩ : {k : Nat // k ≤ (Z.getD i []).length}) (by dsimp only; omega) ?_
          refine same _ _ i _ rfl (mixL_len ..) (by simp [lk, AV.ids, hw1]) (by simp [lk, hn0]) (by simp [lk, hn5]) (by simp [lk, hn10]) (by simp [lk, hn8]) (fun j hj => ?_)
          simp only [lk, List.cons_append, List.nil_append, lk_st]
          repeat rw [if_neg (by omega)]
          rw [← hfin _ j hj hset]
          by_cases e : j = i
          · subst e
            rw [if_pos rfl]
            simp [List.getD, hX2l, hii, obI, List.map_set]
          · rw [if_neg (by omega), lk_fam_add (by rw [hX2l]; exact hj)]
            simp [List.getD, List.getElem?_set, Ne.symm e]
        · rw [if_neg hl0] at hfl
          rw [hfl] at hfin
          refine amStr (h := ?_)
          refine s_regionL ?_
          ((iterate 2 (((with_reducible refine spl_step TT_ok PT80_ok (id := 0) (σ' := ?_) ?_ ?_); rotate_left; (focus (simp [*]; rfl))))))
          refine spl_nil ?_
          refine amStr (h := ?_)
          refine k_lp (⟨k + 1, by omega⟩ : {k : Nat // k ≤ (Z.getD i []).length}) (by dsimp only; omega) ?_
          refine same _ _ i _ rfl (mixL_len ..) (by simp [lk, AV.ids, hw1]) (by simp [lk]) (by simp [lk]) (by simp [lk]) (by simp [lk]) (fun j hj => ?_)
          simp only [lk, List.cons_append, List.nil_append, lk_st]
          repeat rw [if_neg (by omega)]
          rw [← hfin _ j hj rfl]
          exact lk_fam_add (by rw [hX2l]; exact hj)
      · obtain rfl : k = (Z.getD i []).length := by omega
        clear hc
        have hw : IntKind.i64.wrap ((i : Int) + 1) = (i : Int) + 1 := i64s i (by omega)
        have hnx := mixL_next f Z i
        refine amStr (h := ?_)
        refine s_regionL ?_
        ((iterate 2 (((with_reducible refine spl_step TT_ok PT80_ok (id := 0) (σ' := ?_) ?_ ?_); rotate_left; (focus (simp [*]; rfl))))))
        refine spl_nil ?_
        refine amStr (h := ?_)
        refine k_lp (⟨i + 1, by omega⟩ : {i : Nat // i ≤ Z.length}) (by dsimp only; omega) ?_
        refine same _ _ (i + 1) _ rfl (mixL_len ..) (by simp [lk, AV.ids, hw]) (by simp [lk]) (by simp [lk]) (by simp [lk]) (by simp [lk]) (fun j hj => ?_)
        simp only [lk, List.cons_append, List.nil_append]
        repeat rw [if_neg (by omega)]
        exact lk_fam_add (by rw [mixL_len]; exact hj)
    · obtain rfl : i = Z.length := by omega
      clear hc
      subst hf
      have hfull := mixL_full (renl (numOf names)) Z
      generalize mixL (renl (numOf names)) Z Z.length 0 = X at hfull ⊢
      subst hfull
      refine amStr (h := ?_)
      refine s_regionL ?_
      ((iterate 4 (((with_reducible refine spl_step TT_ok PT80_ok (id := 0) (σ' := ?_) ?_ ?_); rotate_left; (focus (simp [*]; rfl))))))
      refine spl_nil ?_
      refine amStr (h := ?_)
      refine s_regionL ?_
      ((iterate 5 (((with_reducible refine spl_step TT_ok PT80_ok (id := 0) (σ' := ?_) ?_ ?_); rotate_left; (focus (simp [*]; rfl))))))
      refine spl_nil ?_
      refine amStr (h := ?_)
      have hrI : refsI 1001 Z = refsI 1001 (Z.map fun c => c.map (renl (numOf names))) := by
        refine List.ext_getElem (by rw [refsI_len, refsI_len, List.length_map]) fun j h1 h2 => ?_
        rw [refsI_len] at h1
        simp [refsI, List.getD, h1]
      have hzl : Z.length = (Z.map fun c => c.map (renl (numOf names))).length := by rw [List.length_map]
      refine post_S (o := 1000) (b := 1001) (.inr rfl) (by rw [Tryd.results15]) ?_ ?_ (fun j hj => ?_) (by omega)
      · simp [retA, retL, ret1, lk, ldA, AV.cell]
      · simp [lk, hrI]
      · simp only [lk, List.cons_append, List.nil_append, lk_st]
        repeat rw [if_neg (by omega)]
        exact lk_fam_add hj
end Go.Proofs.YtafikekndefjcaaDoor
