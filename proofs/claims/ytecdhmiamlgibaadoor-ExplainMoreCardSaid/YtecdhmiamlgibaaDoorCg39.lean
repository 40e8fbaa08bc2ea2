/- Whether changes at some places change the result: the table's changes; no condition. -/
import Derived.Test.YtecdhmiamlgibaaDoorTm39
import Derived.Test.YtecdhmiamlgibaaDoorWa
namespace Go.Proofs.YtecdhmiamlgibaaDoor
set_option linter.unusedVariables false
set_option linter.unusedSimpArgs false
set_option linter.unusedSectionVars false
open Go.RowKit
attribute [local simp] List.getD_cons_zero List.getD_cons_succ List.getD_nil undef gvars runL runE effA stepA dstOk wantA core lk st dl AS.ev AS.evs AS.put AS.upd updO updI nxt cPick cAlloc cBox cBuild cBuildS cLoad cStore cNil plainOf cBin cNilS isNilS nilA cUn cConvX cConvB cConv bytesOf rowB cMake cSlice slA idxA cFA cF cIA cIX cIS cI cExt cLen cApp cMM cFun cCall lenA lenM isNilM nilM cNilM cMakeM hintB cMapK cLook foundR lookR cUpd putM cDel delM findA isKeyB Instr.sameNow AS.entry AS.bound AS.callee sc1 sc2 ixOk ldA AV.flat AV.cell AV.cells Value.oneCell' fillA spl chunk zeros AS.parts AS.rows AS.shut AS.shut1 AS.shut2 AS.shutL AS.shutM AV.ids idsL idsLL eqAll bndA AV.scalar AV.scalar1 AV.isV Ef.app Ef.pk ptOf pntO wrO wr
attribute [-simp] List.getD_eq_getElem?_getD
set_option maxRecDepth 100000
def chgL (f : Nat → Bool) (n at0 : Nat) : List Bool := (List.range (2 ^ n)).map fun m => chgB f n at0 m
theorem chgL_len (f : Nat → Bool) (n at0 : Nat) : (chgL f n at0).length = 2 ^ n := by unfold chgL; simp
theorem chgL_get {f : Nat → Bool} {n at0 m : Nat} (h : m < 2 ^ n) : (chgL f n at0).getD m false = chgB f n at0 m := by unfold chgL; simp [List.getD, h]
theorem xor_i64 {a b : Nat} (ha : a < 2 ^ 64) (hb : b < 2 ^ 64) : a % 2 ^ IntKind.i64.bits ^^^ b % 2 ^ IntKind.i64.bits = a ^^^ b := by
  rw [bits_i64, Nat.mod_eq_of_lt ha, Nat.mod_eq_of_lt hb]
theorem andn_i64 {y b : Nat} (hy : y < 2 ^ 63) (hb : b < 63) : y % 2 ^ IntKind.i64.bits &&& 2 ^ IntKind.i64.bits - 1 - 2 ^ b % 2 ^ IntKind.i64.bits = if y.testBit b = true then y ^^^ 2 ^ b else y := by
  have hp : 2 ^ b < 2 ^ 63 := Nat.pow_lt_pow_right (by omega) hb
  rw [bits_i64, Nat.mod_eq_of_lt (by omega), Nat.mod_eq_of_lt (by omega)]
  apply Nat.eq_of_testBit_eq
  intro i
  rw [Nat.testBit_and, show 2 ^ 64 - 1 - 2 ^ b = 2 ^ 64 - (2 ^ b + 1) by omega, Nat.testBit_two_pow_sub_succ (by omega), Nat.testBit_two_pow]
  by_cases e : b = i
  · subst e
    split
    · rename_i h; rw [Nat.testBit_xor, Nat.testBit_two_pow, h]; simp
    · rename_i h; rw [Bool.not_eq_true] at h; rw [h]; simp
  · rw [decide_eq_false e]
    have : (y.testBit i && (decide (i < 64) && !false)) = y.testBit i := by
      by_cases hi : i < 64
      · simp [hi]
      · have : y.testBit i = false := Nat.testBit_lt_two_pow (Nat.lt_of_lt_of_le (by omega : y < 2 ^ 64) (Nat.pow_le_pow_right (by omega) (Nat.le_of_not_lt hi)))
        rw [this]; rfl
    rw [this]
    split
    · rw [Nat.testBit_xor, Nat.testBit_two_pow, decide_eq_false e, Bool.xor_false]
    · rfl
theorem up_step {f : Nat → Bool} {x b y Y L : Nat} {UU : List Bool} (hY : Y = if y.testBit b = true then y ^^^ 2 ^ b else y) (hlo : ∀ j, j < y → UU.getD j false = upK f x (b + 1) j) (hhi : ∀ j, y ≤ j → j < L → UU.getD j false = upK f x b j) (hyL : y < L) : Y ≤ y ∧ upK f x (b + 1) y = (UU.getD y false || UU.getD Y false) := by
  have h1 := hhi y (Nat.le_refl y) hyL
  by_cases hb : y.testBit b = true
  · rw [if_pos hb] at hY
    have hlt := xor_lt_self hb
    have h2 := hlo Y (by omega)
    refine ⟨by omega, ?_⟩
    have hYb : Y.testBit b = false := by rw [hY, Nat.testBit_xor, Nat.testBit_two_pow, hb]; simp
    rw [h1, h2, upK, upK, hb, hYb, Bool.true_and, Bool.false_and, Bool.or_false, hY]
  · rw [if_neg hb] at hY
    subst hY
    rw [Bool.not_eq_true] at hb
    refine ⟨Nat.le_refl _, ?_⟩
    rw [h1, upK, hb, Bool.false_and, Bool.or_false, Bool.or_self]
theorem changes_p (N : Int) (vs : List Int) (on : List Bool) (x : Nat) (h : okV vs = true) (ho : on.length = 2 ^ vs.length) (hx : x < 2 ^ vs.length) : FnPure Tryd.prog 44 [aTab N vs on, .v (.int .i64 (x : Int))] (aBools (chgL (fun i => on.getD i false) vs.length x)) := by
  obtain ⟨hvs, hl⟩ := okV_vs h
  have hp : 2 ^ vs.length ≤ 65536 := Nat.pow_le_pow_right (n := 2) (by omega) (show vs.length ≤ 16 by omega)
  obtain ⟨L, hL⟩ : ∃ L, 2 ^ vs.length = L := ⟨_, rfl⟩
  rw [hL] at ho hx hp
  have c1 : (L : Int) ≤ 281474976710656 := by omega
  have c2 : (L : Int) ≤ 9223372036854775807 := by omega
  have hxl : (x : Int) < (L : Int) := by omega
  unfold aTab aBools
  refine fn_sp TT_ok Tryd.func44 (c := _) rfl (by simp [Tryd.ntmps44]) (fun B hI0 hro => ?_)
  rw [Tryd.ntmps44]
  simp only [enumA]
  refine amStr (h := ?_)
  refine amReg PT146_ok (h := ?_)
  refine amStr (h := ?_)
  refine amReg PT146_ok (h := ?_)
  refine amStr (h := ?_)
  refine amReg PT146_ok (h := ?_)
  refine amStr (h := ?_)
  refine s_loop (J := fun i : {p : Nat × List Bool // p.1 ≤ L ∧ p.2.length = L ∧ ∀ j, j < p.1 → p.2.getD j false = upK (fun i => on.getD i false) x 0 j} => ⟨66, [(0, .pt [.v (.int .i64 N), aInts vs, .sl 1 (on.map fun b => [AV.v (.bool b)])]), (1, .v (.int .i64 (x : Int))), (5, .ptr 6 0 0), (18, .v (.int .i64 (L : Int))), (19, .v (.int .i64 (i.1.1 : Int)))], [(5, ⟨4, 1, i.1.2.map fun b => [AV.v (.bool b)]⟩), (6, ⟨65, 1, [[.ref 5 0 L]]⟩)], [6, 5]⟩) (μ := fun i => L - i.1.1) ⟨(0, List.replicate L false), Nat.zero_le _, List.length_replicate .., fun j hj => by omega⟩ ?_ (fun ⟨⟨k, LL⟩, hk, hLL, hpre⟩ => ?_)
  · (refine weak_id rfl ?_ ?_ <;> ((try simp only [List.mem_cons, List.not_mem_nil, or_false, forall_eq_or_imp, forall_eq]); (try simp (disch := omega) [i64w, *])))
  dsimp only at hk hLL hpre
  dsimp only
  refine amStr (h := ?_)
  refine amReg PT146_ok (h := ?_)
  refine amStr (h := ?_)
  (focus ((with_reducible refine sp_cond (b := ?_) ?_ (fun hc => ?_) (fun hc => ?_)); rotate_left; (focus (first | rfl | (simp [lk, AS.ev]; rfl))); all_goals (try simp at hc)))
  · have hkk := hc
    clear hc
    have hZ : x ^^^ k < L := by rw [← hL] at hx hkk ⊢; exact Nat.xor_lt_two_pow hx hkk
    have hup : upK (fun i => on.getD i false) x 0 k = (on.getD (x ^^^ k) false != on.getD x false) := rfl
    have hxo := xor_i64 (a := x) (b := k) (by omega) (by omega)
    obtain ⟨Z, hZe⟩ : ∃ Z, x ^^^ k = Z := ⟨_, rfl⟩
    rw [hZe] at hZ hup hxo
    have hwz : IntKind.i64.wrap (Z : Int) = (Z : Int) := i64w (by omega) (by omega)
    clear hZe
    have hkL : k < LL.length := by omega
    have hZo : Z < on.length := by omega
    have hxo2 : x < on.length := by omega
    refine amStr (h := ?_)
    refine amReg PT146_ok (h := ?_)
    refine amStr (h := ?_)
    refine amDrw PT146_ok (h := ?_)
    refine amStr (h := ?_)
    refine amReg PT146_ok (h := ?_)
    refine k_lp (⟨(k + 1, LL.set k (on.getD Z false != on.getD x false)), by omega, by simp [hLL], fun j hj => ?_⟩ : {p : Nat × List Bool // p.1 ≤ L ∧ p.2.length = L ∧ ∀ j, j < p.1 → p.2.getD j false = upK (fun i => on.getD i false) x 0 j}) (by first | omega | (dsimp only; omega)) ?_
    · by_cases e : j < k
      · rw [getD_set_ne (by omega)]; exact hpre j e
      · obtain rfl : j = k := by omega
        rw [getD_set_eq hkL, hup]
    · (refine weak_id rfl ?_ ?_ <;> ((try simp only [List.mem_cons, List.not_mem_nil, or_false, forall_eq_or_imp, forall_eq]); (try simp (disch := omega) [i64w, *])))
      rfl
  obtain rfl : L = k := by omega
  clear hc
  refine amStr (h := ?_)
  refine amReg PT146_ok (h := ?_)
  refine amStr (h := ?_)
  refine s_loop (J := fun i : {p : Nat × List Bool // p.1 ≤ vs.length ∧ p.2.length = L ∧ Hid (∀ j, j < L → p.2.getD j false = upK (fun i => on.getD i false) x p.1 j)} => ⟨66, [(5, .ptr 6 0 0), (47, .v (.int .i64 (vs.length : Int))), (48, .v (.int .i64 (i.1.1 : Int)))], [(5, ⟨4, 1, i.1.2.map fun b => [AV.v (.bool b)]⟩), (6, ⟨65, 1, [[.ref 5 0 L]]⟩)], [6, 5]⟩) (μ := fun i => vs.length - i.1.1) ⟨(0, LL), Nat.zero_le _, hLL, Lib.hid fun j hj => hpre j hj⟩ ?_ (fun ⟨⟨b, MM⟩, hb, hMM, hq⟩ => ?_)
  · (refine weak_id rfl ?_ ?_ <;> ((try simp only [List.mem_cons, List.not_mem_nil, or_false, forall_eq_or_imp, forall_eq]); (try simp (disch := omega) [i64w, *])))
  dsimp only at hb hMM hq
  dsimp only
  refine amStr (h := ?_)
  refine amReg PT146_ok (h := ?_)
  refine amStr (h := ?_)
  (focus ((with_reducible refine sp_cond (b := ?_) ?_ (fun hc => ?_) (fun hc => ?_)); rotate_left; (focus (first | rfl | (simp [lk, AS.ev]; rfl))); all_goals (try simp at hc)))
  · have hbb := hc
    clear hc
    have hwk : IntKind.u64.wrap (b : Int) = (b : Int) := u64w (by omega) (by omega)
    have hk0 : ¬ ((b : Int) < 0) := by omega
    have hmin : min b IntKind.i64.bits = b := by rw [bits_i64]; omega
    have hpb : 2 ^ b < 2 ^ vs.length := Nat.pow_lt_pow_right (by omega) hbb
    obtain ⟨M, hM⟩ : ∃ M : Nat, 2 ^ b = M := ⟨_, rfl⟩
    have hpow : IntKind.i64.wrap (2 ^ b) = (M : Int) := by
      have e : ((2 : Int) ^ b) = (M : Int) := by rw [← hM]; simp
      rw [e]; exact i64w (by omega) (by omega)
    refine amStr (h := ?_)
    refine amReg PT146_ok (h := ?_)
    refine amStr (h := ?_)
    refine amReg PT146_ok (h := ?_)
    refine amStr (h := ?_)
    refine amReg PT146_ok (h := ?_)
    refine amStr (h := ?_)
    refine amReg PT146_ok (h := ?_)
    refine amStr (h := ?_)
    refine s_loop (J := fun i : {q : Nat × List Bool // q.1 ≤ L ∧ q.2.length = L ∧ Hid (∀ j, j < q.1 → q.2.getD j false = upK (fun i => on.getD i false) x (b + 1) j) ∧ Hid (∀ j, q.1 ≤ j → j < L → q.2.getD j false = upK (fun i => on.getD i false) x b j)} => ⟨66, [(5, .ptr 6 0 0), (47, .v (.int .i64 (vs.length : Int))), (48, .v (.int .i64 (b : Int))), (9, .clo 73 [.ptr 6 0 0, .ptr 10 0 0]), (56, .v (.int .i64 (L : Int))), (57, .v (.int .i64 (i.1.1 : Int)))], [(5, ⟨4, 1, i.1.2.map fun b => [AV.v (.bool b)]⟩), (6, ⟨65, 1, [[.ref 5 0 L]]⟩), (10, ⟨3, 1, [[.v (.int .i64 (M : Int))]]⟩)], [10, 6, 5]⟩) (μ := fun i => L - i.1.1) ⟨(0, MM), Nat.zero_le _, hMM, Lib.hid fun j hj => by omega, Lib.hid fun j _ hj => hq.out j hj⟩ ?_ (fun ⟨⟨y, UU⟩, hy, hUU, hlo, hhi⟩ => ?_)
    · (refine weak_id rfl ?_ ?_ <;> ((try simp only [List.mem_cons, List.not_mem_nil, or_false, forall_eq_or_imp, forall_eq]); (try simp (disch := omega) [i64w, *])))
    dsimp only at hy hUU hlo hhi
    dsimp only
    refine amStr (h := ?_)
    refine amReg PT146_ok (h := ?_)
    refine amStr (h := ?_)
    (focus ((with_reducible refine sp_cond (b := ?_) ?_ (fun hc => ?_) (fun hc => ?_)); rotate_left; (focus (first | rfl | (simp [lk, AS.ev]; rfl))); all_goals (try simp at hc)))
    · have hyy := hc
      clear hc
      have hyU : y < UU.length := by omega
      have handn := andn_i64 (y := y) (b := b) (by omega) (by omega)
      rw [hM] at handn
      obtain ⟨Y, hYe⟩ : ∃ Y, (if y.testBit b = true then y ^^^ M else y) = Y := ⟨_, rfl⟩
      rw [hYe] at handn
      obtain ⟨hYy, hst⟩ := up_step (Y := Y) (by rw [hM]; exact hYe.symm) hlo.out hhi.out hyy
      have hst2 := Lib.hid hst
      have hYU : Y < UU.length := by omega
      have hYL : (Y : Int) < (L : Int) := by omega
      have hYN : Y < L := by omega
      have hwY : IntKind.i64.wrap (Y : Int) = (Y : Int) := i64w (by omega) (by omega)
      clear hYe hst
      clear hpow hk0 hwk hmin
      refine amStr (h := ?_)
      refine amReg PT146_ok (h := ?_)
      refine amStr (h := ?_)
      refine s_regionL ?_
      ((iterate 2 (((with_reducible refine spl_step TT_ok PT146_ok (id := 0) (σ' := ?_) ?_ ?_); rotate_left; (focus (simp [*]; rfl))))))
      refine spl_call TT_ok rfl rfl rfl (by kernel_rfl) Tryd.func73 rfl (avs := [.v (.int .i64 (y : Int))]) (cs := [.ptr 6 0 0, .ptr 10 0 0]) rfl rfl (by simp [Tryd.ntmps73]) fun B' hI' hro' => ?_
      rw [Tryd.ntmps73, Tryd.results73]
      simp only [enumA, List.cons_append, List.nil_append]
      cases hu : UU.getD y false
      · refine amStr (h := ?_)
        refine amDrw PT146_ok (h := ?_)
        refine ⟨.inl rfl, .tup [], rfl, ?_⟩
        refine spl_nil ?_
        refine amStr (h := ?_)
        refine amReg PT146_ok (h := ?_)
        refine k_lp (⟨(y + 1, UU.set y (UU.getD Y false)), by omega, by simp [hUU], Lib.hid fun j hj => ?_, Lib.hid fun j hj1 hj2 => ?_⟩ : {q : Nat × List Bool // q.1 ≤ L ∧ q.2.length = L ∧ Hid (∀ j, j < q.1 → q.2.getD j false = upK (fun i => on.getD i false) x (b + 1) j) ∧ Hid (∀ j, q.1 ≤ j → j < L → q.2.getD j false = upK (fun i => on.getD i false) x b j)}) (by first | omega | (dsimp only; omega)) ?_
        · by_cases e : j < y
          · rw [getD_set_ne (by omega)]; exact hlo.out j e
          · obtain rfl : j = y := by omega
            rw [getD_set_eq hyU, hst2.out, hu]; rfl
        · rw [getD_set_ne (by omega)]; exact hhi.out j (by omega) hj2
        · (refine weak_id rfl ?_ ?_ <;> ((try simp only [List.mem_cons, List.not_mem_nil, or_false, forall_eq_or_imp, forall_eq]); (try simp (disch := omega) [i64w, *])))
      · refine amStr (h := ?_)
        refine amDrw PT146_ok (h := ?_)
        refine ⟨.inl rfl, .tup [], rfl, ?_⟩
        refine spl_nil ?_
        refine amStr (h := ?_)
        refine amReg PT146_ok (h := ?_)
        refine k_lp (⟨(y + 1, UU.set y true), by omega, by simp [hUU], Lib.hid fun j hj => ?_, Lib.hid fun j hj1 hj2 => ?_⟩ : {q : Nat × List Bool // q.1 ≤ L ∧ q.2.length = L ∧ Hid (∀ j, j < q.1 → q.2.getD j false = upK (fun i => on.getD i false) x (b + 1) j) ∧ Hid (∀ j, q.1 ≤ j → j < L → q.2.getD j false = upK (fun i => on.getD i false) x b j)}) (by first | omega | (dsimp only; omega)) ?_
        · by_cases e : j < y
          · rw [getD_set_ne (by omega)]; exact hlo.out j e
          · obtain rfl : j = y := by omega
            rw [getD_set_eq hyU, hst2.out, hu]; rfl
        · rw [getD_set_ne (by omega)]; exact hhi.out j (by omega) hj2
        · (refine weak_id rfl ?_ ?_ <;> ((try simp only [List.mem_cons, List.not_mem_nil, or_false, forall_eq_or_imp, forall_eq]); (try simp (disch := omega) [i64w, *])))
    · obtain rfl : L = y := by omega
      clear hc
      refine amStr (h := ?_)
      refine amReg PT146_ok (h := ?_)
      refine k_lp (⟨(b + 1, UU), by omega, hUU, Lib.hid fun j hj => hlo.out j hj⟩ : {p : Nat × List Bool // p.1 ≤ vs.length ∧ p.2.length = L ∧ Hid (∀ j, j < L → p.2.getD j false = upK (fun i => on.getD i false) x p.1 j)}) (by first | omega | (dsimp only; omega)) ?_
      (refine weak_id rfl ?_ ?_ <;> ((try simp only [List.mem_cons, List.not_mem_nil, or_false, forall_eq_or_imp, forall_eq]); (try simp (disch := omega) [i64w, *])))
  · obtain rfl : b = vs.length := by omega
    clear hc
    have hfin : MM = chgL (fun i => on.getD i false) vs.length x := ext_getD false (by rw [hMM, chgL_len, hL]) fun i hi => by
      rw [chgL_len] at hi
      rw [chgL_get hi]; exact hq.out i (by rw [← hL]; exact hi)
    rw [← hfin]
    clear hfin
    refine amGo PT146_ok (h := ?_)
    ((refine post_ret (av := ?_) (by first | exact .inl rfl | exact .inr rfl) (show (Tryd.f44).results.toList = _ from by rw [Tryd.results44]) ?_ ?_); rotate_left; (focus (simp [retA, retL, ret1, lk, st, ldA, AV.cell]; rfl)); (try simp [*]))
    rw [← hMM, take_map_len]
    exact ⟨d_ids_bools MM, rfl⟩
theorem changes_p2 (N : Int) (vs : List Int) (on : List Bool) (x : Int) (hk : (okV vs && decide (on.length = 2 ^ vs.length) && decide (0 ≤ x) && decide (x < (on.length : Int))) = true) : FnPure Tryd.prog 44 [aTab N vs on, .v (.int .i64 x)] (aBools (chgL (fun i => on.getD i false) vs.length x.toNat)) := by
  simp only [Bool.and_eq_true, decide_eq_true_eq] at hk
  obtain ⟨⟨⟨h1, h2⟩, h3⟩, h4⟩ := hk
  have h := changes_p N vs on x.toNat h1 h2 (by omega)
  rw [Int.toNat_of_nonneg h3] at h
  exact h
@[simp] def g_tChg : List AV → Option (AV × Bool)
  | [.pt [.v (.int .i64 N), a0, b0], .v (.int .i64 x)] => (match toInts a0 with | some vs => (match toBools b0 with | some on => if (okI x && (okV vs && decide (on.length = 2 ^ vs.length) && decide (0 ≤ x) && decide (x < (on.length : Int)))) = true then some (aBools (chgL (fun i => on.getD i false) vs.length x.toNat), false) else none | none => none) | none => none)
  | _ => none
theorem e_tChg : EntOk Tryd.prog 44 g_tChg := ent_pure (by kernel_rfl) fun args r fr h => by
  unfold g_tChg at h
  split at h
  · rename_i N a0 b0 x
    split at h
    · rename_i vs t0
      split at h
      · rename_i on s0
        split at h
        · rename_i hc
          simp only [Bool.and_eq_true] at hc
          obtain ⟨o1, hk⟩ := hc
          cases h
          exact ⟨FnPure.cov (changes_p2 N vs on x (by simp only [Bool.and_eq_true]; exact hk)) (.cons (cov_tab _ t0 s0) (.cons (Cov.refl _) .nil)), rfl⟩
        · cases h
      · cases h
    · cases h
  · cases h

def l147 : List (FuncId × (List AV → Option (AV × Bool))) :=
  (44, g_tChg) :: l146
theorem l147_ok : ∀ p ∈ l147, EntOk Tryd.prog p.1 p.2 := ent_cons e_tChg (l146_ok)
def PT147 : PTab := tab l147
theorem PT147_ok : PTok Tryd.prog PT147 := tab_ok l147_ok
@[simp] theorem PT147_litVar : PT147 85 = g_litVar := rfl
@[simp] theorem PT147_litValid : PT147 110 = g_litValid := rfl
@[simp] theorem PT147_with : PT147 26 = g_with := rfl
@[simp] theorem PT147_without : PT147 25 = g_without := rfl
@[simp] theorem PT147_all : PT147 29 = g_all := rfl
@[simp] theorem PT147_place : PT147 54 = g_place := rfl
@[simp] theorem PT147_vHas : PT147 36 = g_vHas := rfl
@[simp] theorem PT147_vMinus : PT147 31 = g_vMinus := rfl
@[simp] theorem PT147_vCut : PT147 22 = g_vCut := rfl
@[simp] theorem PT147_vUnion : PT147 21 = g_vUnion := rfl
@[simp] theorem PT147_vSub : PT147 72 = g_vSub := rfl
@[simp] theorem PT147_litHolds : PT147 56 = g_litHolds := rfl
@[simp] theorem PT147_nFormed : PT147 84 = g_nFormed := rfl
@[simp] theorem PT147_nCheck : PT147 55 = g_nCheck := rfl
@[simp] theorem PT147_r4Var : PT147 97 = g_r4Var := rfl
@[simp] theorem PT147_r4Valid : PT147 96 = g_r4Valid := rfl
@[simp] theorem PT147_rFormed : PT147 69 = g_rFormed := rfl
@[simp] theorem PT147_rValid20 : PT147 40 = g_rValid20 := rfl
@[simp] theorem PT147_r3Has : PT147 83 = g_r3Has := rfl
@[simp] theorem PT147_r3List : PT147 70 = g_r3List := rfl
@[simp] theorem PT147_r3Len : PT147 41 = g_r3Len := rfl
@[simp] theorem PT147_light39 : PT147 39 = g_light39 := rfl
@[simp] theorem PT147_r20Vars : PT147 71 = g_r20Vars := rfl
@[simp] theorem PT147_r39Mat : PT147 42 = g_r39Mat := rfl
@[simp] theorem PT147_few39 : PT147 12 = g_few39 := rfl
@[simp] theorem PT147_vOf : PT147 23 = g_vOf := rfl
@[simp] theorem PT147_nVars : PT147 91 = g_nVars := rfl
@[simp] theorem PT147_tIndex : PT147 53 = g_tIndex := rfl
@[simp] theorem PT147_tTerm : PT147 45 = g_tTerm := rfl
@[simp] theorem PT147_tChg : PT147 44 = g_tChg := rfl
end Go.Proofs.YtecdhmiamlgibaaDoor
