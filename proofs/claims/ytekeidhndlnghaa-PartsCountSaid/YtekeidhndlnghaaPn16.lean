/- The law PartsCount returns true; no condition. -/
import Derived.Test.YtekeidhndlnghaaPc16
import Derived.Test.YtekeidhndlnghaaWa
import Derived.Test.YtekeidhndlnghaaRows
namespace Go.Proofs.Ytekeidhndlnghaa
set_option linter.unusedVariables false
set_option linter.unusedSimpArgs false
set_option linter.unusedSectionVars false
open Go.ChangeShapes Go.WideShapes Go.ChangeAt Go.RowKit
attribute [local simp] List.getD_cons_zero List.getD_cons_succ List.getD_nil undef gvars runL runE effA stepA dstOk wantA core lk st dl AS.ev AS.evs AS.put AS.upd updO updI nxt cPick cAlloc cBox cBuild cBuildS cLoad cStore cNil plainOf cBin cNilS isNilS nilA cUn cConvX cConvB cConv bytesOf rowB cMake cSlice slA idxA cFA cF cIA cIX cIS cI cExt cLen cApp cMM cFun cCall lenA lenM isNilM nilM cNilM cMakeM hintB cMapK cLook foundR lookR cUpd putM cDel delM findA isKeyB Instr.sameNow AS.entry AS.bound AS.callee sc1 sc2 ixOk ldA AV.flat AV.cell AV.cells Value.oneCell' fillA spl chunk zeros AS.parts AS.rows AS.shut AS.shut1 AS.shut2 AS.shutL AS.shutM AV.ids idsL idsLL eqAll bndA AV.scalar AV.scalar1 AV.isV Ef.app Ef.pk ptOf pntO wrO wr
attribute [-simp] List.getD_eq_getElem?_getD
set_option maxRecDepth 100000
def amN (N : Int) (X : List (List Int)) (S : BitVec 128) : Int := (cnt (fun k => amK S k && evalT (N.toNat : Int) X (nSet k)) (2 ^ N.toNat) : Nat)
theorem among_q (N : Int) (X : List (List Int)) (S : BitVec 128) (hX : okRows X = true) (hk : decide (0 ≤ N) = true ∧ decide (N ≤ 10) = true) : FnPure Try.prog 25 [aTh N X, aSet S] (.v (.int .i64 (amN N X S))) := by
  simp only [decide_eq_true_eq] at hk
  obtain ⟨n, rfl⟩ : ∃ n : Nat, N = n := ⟨N.toNat, by omega⟩
  exact among_p n X S (by omega) hX
@[simp] def g_among6 : List AV → Option (AV × Bool)
  | [.agg [.v (.int .i64 N), a0], a1] => (match toRows a0 with | some X => (match toSet a1 with | some S => if (okI N && okRows X && (decide (0 ≤ N) && decide (N ≤ 10))) = true then some (.v (.int .i64 (amN N X S)), false) else none | none => none) | none => none)
  | _ => none
theorem e_among6 : EntOk Try.prog 25 g_among6 := ent_pure (by kernel_rfl) fun args r fr h => by
  unfold g_among6 at h
  split at h
  · rename_i N a0 a1
    split at h
    · rename_i X t0
      split at h
      · rename_i S t1
        split at h
        · rename_i hc
          simp only [Bool.and_eq_true] at hc
          obtain ⟨⟨m0, o0⟩, hk⟩ := hc
          cases h
          exact ⟨FnPure.cov (among_q N X S o0 hk) (.cons (cov_th _ (cov_rows t0)) (.cons (toSet_inv t1 ▸ Cov.refl _) .nil)), rfl⟩
        · cases h
      · cases h
    · cases h
  · cases h

@[simp] def g_r4All : List AV → Option (AV × Bool)
  | [a0, a1] => (match toSet a0 with | some s => (match toInts a1 with | some xs => if (okInts xs) = true then some (.v (.bool (allHold s xs)), true) else none | none => none) | none => none)
  | _ => none
theorem e_r4All : EntOk Try.prog 24 g_r4All := ent_fresh (by kernel_rfl) fun args r fr h => by
  unfold g_r4All at h
  split at h
  · rename_i a0 a1
    split at h
    · rename_i s t0
      split at h
      · rename_i xs t1
        split at h
        · rename_i hc
          have o1 := hc
          cases h
          exact fresh_gives (fun G => .v _) fun S w vs hS hn hv => by
            obtain ⟨u0, u1, rfl, r0, r1⟩ := args2 hn hv
            have q0 := toSet_rv t0 r0
            subst q0
            have q1 := ints_of hS r1 t1 o1
            exact ref04All_c s q1
        · cases h
      · cases h
    · cases h
  · cases h

def l98 : List (FuncId × (List AV → Option (AV × Bool))) :=
  (10, g_few16) :: (11, g_works6) :: (12, g_pSplit6) :: (17, g_pAlone6) :: (20, g_r4In) :: (24, g_r4All) :: (25, g_among6) :: (23, g_rEval) :: l1
theorem l98_ok : ∀ p ∈ l98, EntOk Try.prog p.1 p.2 := ent_cons e_few16 (ent_cons e_works6 (ent_cons e_pSplit6 (ent_cons e_pAlone6 (ent_cons e_r4In (ent_cons e_r4All (ent_cons e_among6 (ent_cons e_rEval (l1_ok))))))))
def PT98 : PTab := tab l98
theorem PT98_ok : PTok Try.prog PT98 := tab_ok l98_ok
@[simp] theorem PT98_few16 : PT98 10 = g_few16 := rfl
@[simp] theorem PT98_works6 : PT98 11 = g_works6 := rfl
@[simp] theorem PT98_pSplit6 : PT98 12 = g_pSplit6 := rfl
@[simp] theorem PT98_pAlone6 : PT98 17 = g_pAlone6 := rfl
@[simp] theorem PT98_r4In : PT98 20 = g_r4In := rfl
@[simp] theorem PT98_r4All : PT98 24 = g_r4All := rfl
@[simp] theorem PT98_among6 : PT98 25 = g_among6 := rfl
@[simp] theorem PT98_rEval : PT98 23 = g_rEval := rfl
set_option maxHeartbeats 8000000 in
theorem pcount_ok (n : Nat) (L : List (List Int)) (ts : List Int) (hn : n ≤ 10) (hL : okLens L = true) (ht : okIL ts = true) (hv : validT (n : Int) L ts = true) (hf : fewW L ts = true) : FnPure Try.prog 6 [aTh (n : Int) L, aInts ts] (.v (.bool true)) := by
  obtain ⟨h1, h2⟩ := fewW_len hf
  have htr := okInts_il ht (by omega)
  have hN : okI (n : Int) = true := okI_iff.2 ⟨by omega, by omega⟩
  obtain ⟨_, _, _, hl3⟩ := checkT_ok (valid_check hv)
  have hLr : okRows L = true := okRows_lens hL (by omega) fun c hc => by have := (hl3 c hc).1; omega
  have hok := okParts_spl (n : Int) L ts
  have e3 : splEr (n : Int) L ts = 0 := if_pos hv
  have hpt := Lib.hid (fun p (hp : p ∈ splL (n : Int) L ts) => whole_part hv hp)
  have hlaw := count_law hv (by omega)
  have hple := Lib.hid (fun k hk => prd_le hv (k := k) (by omega) hk)
  have hnu : IntKind.u64.wrap (n : Int) = n := u64v (by omega) (by omega)
  have hsh := two_shl hn
  obtain ⟨P, hP⟩ : ∃ P, 2 ^ n = P := ⟨_, rfl⟩
  have hP1024 : P ≤ 1024 := by rw [← hP]; exact Nat.pow_le_pow_right (n := 2) (by omega) hn
  rw [hP] at hsh hlaw hple
  obtain ⟨l, hl⟩ : ∃ l, splL (n : Int) L ts = l := ⟨_, rfl⟩
  obtain ⟨f, hfr⟩ : ∃ f, splF (n : Int) L ts = f := ⟨_, rfl⟩
  rw [hl] at hok hpt hlaw hple
  rw [hfr] at hlaw
  have hln := okParts_len hok
  have hsv : aSet f = .agg [.v (.int .u64 ((lo f).toNat : Int)), .v (.int .u64 ((hi f).toNat : Int))] := rfl
  have hap : aParts l = .sl 3 (l.map partRow) := rfl
  have hidl := idsLL_parts l
  obtain ⟨E, hE⟩ : ∃ E : Nat → Bool, (fun k => evalT (n : Int) L (nSet k)) = E := ⟨_, rfl⟩
  obtain ⟨A, hA⟩ : ∃ A : Nat → Bool, (fun k => allHold (nSet k) ts) = A := ⟨_, rfl⟩
  have hEk := Lib.hid (fun k => (congrFun hE k : evalT (n : Int) L (nSet k) = E k))
  have hAk := Lib.hid (fun k => (congrFun hA k : allHold (nSet k) ts = A k))
  obtain ⟨W, hW⟩ : ∃ W : Nat → Bool, (fun k => E k && A k) = W := ⟨_, rfl⟩
  have hWk := Lib.hid (fun k => (congrFun hW k : (E k && A k) = W k))
  have hlaw2 : cnt W P = pwB n (inS f) * prd n L ts l := by
    rw [← hlaw, ← hW]
    exact cnt_congr fun k _ => by rw [← hEk.out k, ← hAk.out k]
  have hwle := cnt_le W P
  have hv2 := Lib.hid hv
  clear hlaw hE hA hW hv hl3
  unfold aTh
  have hgt : ¬ (10 : Int) < (n : Int) := by omega
  have hgt2 : ¬ 10 < n := by omega
  refine fn_sp TT_ok Try.func6 (c := _) rfl (by simp [Try.ntmps6]) (fun B hI0 hro => ?_)
  rw [Try.ntmps6]
  simp only [enumA]
  refine amGo PT98_ok (h := ?_)
  refine s_loop (J := fun k : {k : Nat // k ≤ P} => ⟨106, [(1, aInts ts), (2, .ptr 0 0 0), (4, .v (.bool false)), (5, .sl 3 (l.map partRow)), (6, .ptr 8 0 0), (8, .v (.int .i64 (cnt W k.1 : Int))), (9, .v (.int .u64 (k.1 : Int)))], [(0, ⟨24, 2, [[.v (.int .i64 (n : Int)), aRows L]]⟩), (8, ⟨31, 2, [[.v (.int .u64 ((lo f).toNat : Int)), .v (.int .u64 ((hi f).toNat : Int))]]⟩)], [8, 0]⟩) (μ := fun k => P - k.1) ⟨0, Nat.zero_le _⟩ ?_ (fun ⟨k, hk⟩ => ?_)
  · have h0 : cnt W 0 = 0 := rfl
    (refine weak_id rfl ?_ ?_ <;> ((try simp only [List.mem_cons, List.not_mem_nil, or_false, forall_eq_or_imp, forall_eq]); (try simp (disch := omega) [i64w, *])))
  clear hsv hap
  dsimp only
  have hcl := cnt_le W k
  have hcs := cnt_succ W k
  have hwk : IntKind.u64.wrap ((k : Int) + 1) = (k : Int) + 1 := u64v (by omega) (by omega)
  refine amStr (h := ?_)
  refine amReg PT98_ok (h := ?_)
  refine amStr (h := ?_)
  (focus ((with_reducible refine sp_cond (b := ?_) ?_ (fun hc => ?_) (fun hc => ?_)); rotate_left; (focus (first | rfl | (simp [lk, AS.ev]; rfl))); all_goals (try simp at hc)))
  · have hkk := hc
    clear hc
    have hkE := hEk.out k
    have hkA := hAk.out k
    have hkW := hWk.out k
    have hset := toSet_nat (k := k) (by omega)
    have hwc : IntKind.i64.wrap ((cnt W k : Int) + 1) = (cnt W k : Int) + 1 := i64s _ (by omega)
    cases hq : E k
    · rw [hq, Bool.false_and] at hkW
      rw [← hkW, if_neg (by simp)] at hcs
      rw [hq] at hkE
      clear hkW hkA
      refine amGo PT98_ok (h := ?_)
      refine k_lp (⟨k + 1, by omega⟩ : {k : Nat // k ≤ P}) (by first | omega | (dsimp only; omega)) ?_
      dsimp only
      rw [hcs]
      (refine weak_id rfl ?_ ?_ <;> ((try simp only [List.mem_cons, List.not_mem_nil, or_false, forall_eq_or_imp, forall_eq]); (try simp (disch := omega) [i64w, *])))
    · rw [hq, Bool.true_and] at hkW
      rw [← hkW] at hcs
      rw [hq] at hkE
      clear hkW
      cases hq2 : A k
      · rw [hq2, if_neg (by simp)] at hcs
        rw [hq2] at hkA
        refine amGo PT98_ok (h := ?_)
        refine k_lp (⟨k + 1, by omega⟩ : {k : Nat // k ≤ P}) (by first | omega | (dsimp only; omega)) ?_
        dsimp only
        rw [hcs]
        (refine weak_id rfl ?_ ?_ <;> ((try simp only [List.mem_cons, List.not_mem_nil, or_false, forall_eq_or_imp, forall_eq]); (try simp (disch := omega) [i64w, *])))
      · rw [hq2, if_pos rfl] at hcs
        rw [hq2] at hkA
        refine amGo PT98_ok (h := ?_)
        refine k_lp (⟨k + 1, by omega⟩ : {k : Nat // k ≤ P}) (by first | omega | (dsimp only; omega)) ?_
        dsimp only
        rw [hcs]
        (refine weak_id rfl ?_ ?_ <;> ((try simp only [List.mem_cons, List.not_mem_nil, or_false, forall_eq_or_imp, forall_eq]); (try simp (disch := omega) [i64w, *])))
  obtain rfl : k = P := by omega
  clear hc hcl hcs hwk hsh hnu hEk hAk hWk
  rw [hlaw2] at hwle ⊢
  have hR1 : prd n L ts (l.take l.length) = prd n L ts l := by rw [List.take_length]
  obtain ⟨V, hV⟩ : ∃ V, pwB n (inS f) * prd n L ts l = V := ⟨_, rfl⟩
  rw [hV] at hwle ⊢
  have hV2 := Lib.hid hV
  clear hV hlaw2
  refine amGo PT98_ok (h := ?_)
  refine s_loop (J := fun i : {i : Nat // i ≤ l.length} => ⟨106, [(1, aInts ts), (2, .ptr 0 0 0), (4, .v (.bool false)), (5, .sl 3 (l.map partRow)), (6, .ptr 8 0 0), (8, .v (.int .i64 (V : Int))), (10, .v (.int .i64 (prd n L ts (l.take i.1) : Int))), (11, .v (.int .i64 (i.1 : Int)))], [(0, ⟨24, 2, [[.v (.int .i64 (n : Int)), aRows L]]⟩), (8, ⟨31, 2, [[.v (.int .u64 ((lo f).toNat : Int)), .v (.int .u64 ((hi f).toNat : Int))]]⟩)], [8, 0]⟩) (μ := fun i => l.length - i.1) ⟨0, Nat.zero_le _⟩ ?_ (fun ⟨i, hie⟩ => ?_)
  · have h0 : prd n L ts [] = 1 := rfl
    (refine weak_id rfl ?_ ?_ <;> ((try simp only [List.mem_cons, List.not_mem_nil, or_false, forall_eq_or_imp, forall_eq]); (try simp (disch := omega) [i64w, *])))
  dsimp only
  clear hR1
  refine amStr (h := ?_)
  refine amReg PT98_ok (h := ?_)
  refine amStr (h := ?_)
  (focus ((with_reducible refine sp_cond (b := ?_) ?_ (fun hc => ?_) (fun hc => ?_)); rotate_left; (focus (first | rfl | (simp [lk, AS.ev]; rfl))); all_goals (try simp at hc)))
  · have hii := hc
    clear hc
    have hrow := parts_row hii
    have hpc := okParts_at hok i
    have hpp : l.getD i (0#128, []) ∈ l := by
      have : l.getD i (0#128, []) = l[i] := by simp [List.getD, hii]
      rw [this]; exact List.getElem_mem hii
    obtain ⟨g1, g2, g3, _⟩ := hpt.out _ hpp
    have hsuc : prd n L ts (l.take (i + 1)) = prd n L ts (l.take i) * amongN n L ts (l.getD i (0#128, [])) := by
      have : l.getD i (0#128, []) = l[i] := by simp [List.getD, hii]
      rw [this, List.take_succ_eq_append_getElem hii, prd_append]
      simp [prd]
    have hle1 := hple.out (i + 1) (by omega)
    rw [hsuc] at hle1
    obtain ⟨p, hp⟩ : ∃ p, l.getD i (0#128, []) = p := ⟨_, rfl⟩
    rw [hp] at hrow hpc g1 g2 g3 hsuc hle1
    clear hp hpp
    obtain ⟨ps, cs⟩ := p
    dsimp only at hrow hpc g1 g2 g3
    have hrA : rAloneA (n : Int) L ts cs = .tup [.agg [.v (.int .i64 (n : Int)), aRows (alnL L ts cs)], .v (.int .i64 0)] := by unfold rAloneA; rw [if_pos ⟨hv2.out, g1⟩]; rfl
    have hXr : okRows (alnL L ts cs) = true := by
      obtain ⟨_, _, x1, x2⟩ := checkT_ok (valid_check g2)
      have hpcl := okInts_len hpc
      simp only [okRows, Bool.and_eq_true, List.all_eq_true, decide_eq_true_eq]
      refine ⟨fun c hc => ?_, by rw [alnL_len]; omega⟩
      have hcl := (x2 c hc).1
      simp only [okInts, Bool.and_eq_true, List.all_eq_true, decide_eq_true_eq]
      refine ⟨fun x hx => ?_, by omega⟩
      have := litOk_range ((x2 c hc).2 x hx)
      exact okI_iff.2 ⟨by omega, by omega⟩
    have ham : amN (n : Int) (alnL L ts cs) ps = (amongN n L ts (ps, cs) : Int) := by unfold amN amongN; simp
    obtain ⟨X, hX⟩ : ∃ X, alnL L ts cs = X := ⟨_, rfl⟩
    rw [hX] at hrA hXr ham
    obtain ⟨a, ha⟩ : ∃ a, amongN n L ts (ps, cs) = a := ⟨_, rfl⟩
    rw [ha] at ham hsuc hle1
    obtain ⟨R, hR⟩ : ∃ R, prd n L ts (l.take i) = R := ⟨_, rfl⟩
    rw [hR] at hsuc hle1 ⊢
    have hwm : IntKind.i64.wrap ((R : Int) * (a : Int)) = (R : Int) * (a : Int) := by
      have e : (R : Int) * (a : Int) = ((R * a : Nat) : Int) := by push_cast; rfl
      rw [e]; exact i64n _ (by omega)
    have hwi : IntKind.i64.wrap ((i : Int) + 1) = (i : Int) + 1 := i64s i (by omega)
    have hn0 : (0 : Int) ≤ (n : Int) := by omega
    have hn10 : (n : Int) ≤ 10 := by omega
    clear hX g1 g2 ha hR
    refine amStr (h := ?_)
    (focus ((with_reducible refine s_draw2 (q := ?_) (es := ?_) (σ' := ?_) prog_mixed TT_ok PT98_ok ?_ ?_ ?_ ?_); rotate_left 3; (focus (first | (simp; exact Eq.refl _) | exact Eq.refl _)); (focus ((repeat (((with_reducible refine runE_cons (e := ?_) (σ1 := ?_) (es := ?_) ?_ ?_ ?_); rotate_left 3; (focus (simp [*]; exact Eq.refl _)); (focus (simp; exact Eq.refl _))))); (exact runE_nil))); (focus (simp [fpA, fpF, isFn, fpo, topIds, lightS, light, Op.operands, Call.operands]; try kernel_rfl))))
    refine amStr (h := ?_)
    refine amReg PT98_ok (h := ?_)
    refine amStr (h := ?_)
    (focus ((with_reducible refine s_draw2 (q := ?_) (es := ?_) (σ' := ?_) prog_mixed TT_ok PT98_ok ?_ ?_ ?_ ?_); rotate_left 3; (focus (first | (simp; exact Eq.refl _) | exact Eq.refl _)); (focus ((repeat (((with_reducible refine runE_cons (e := ?_) (σ1 := ?_) (es := ?_) ?_ ?_ ?_); rotate_left 3; (focus (simp [*]; exact Eq.refl _)); (focus (simp; exact Eq.refl _))))); (exact runE_nil))); (focus (simp [fpA, fpF, isFn, fpo, topIds, lightS, light, Op.operands, Call.operands]; try kernel_rfl))))
    refine amStr (h := ?_)
    refine amReg PT98_ok (h := ?_)
    refine k_lp (⟨i + 1, by omega⟩ : {i : Nat // i ≤ l.length}) (by first | omega | (dsimp only; omega)) ?_
    dsimp only
    rw [hsuc]
    have e5 : ((R * a : Nat) : Int) = (R : Int) * (a : Int) := by push_cast; rfl
    rw [e5]
    (refine weak_id rfl ?_ ?_ <;> ((try simp only [List.mem_cons, List.not_mem_nil, or_false, forall_eq_or_imp, forall_eq]); (try simp (disch := omega) [i64w, *])))
  obtain rfl : i = l.length := by omega
  clear hc hpt hple
  rw [List.take_length]
  obtain ⟨R, hR⟩ : ∃ R, prd n L ts l = R := ⟨_, rfl⟩
  rw [hR]
  have hVR : pwB n (inS f) * R = V := by rw [← hR]; exact hV2.out
  clear hV2 hR
  have hpm := Lib.hid (fun v (h : v ≤ n) => pwB_mono (inS f) (m := v) h)
  refine amGo PT98_ok (h := ?_)
  refine s_loop (J := fun v : {v : Nat // v ≤ n} => ⟨106, [(2, .ptr 0 0 0), (4, .v (.bool false)), (6, .ptr 8 0 0), (8, .v (.int .i64 (V : Int))), (10, .v (.int .i64 ((R * pwB v.1 (inS f) : Nat) : Int))), (14, .v (.int .i64 ((v.1 : Int) + 1)))], [(0, ⟨24, 2, [[.v (.int .i64 (n : Int)), aRows L]]⟩), (8, ⟨31, 2, [[.v (.int .u64 ((lo f).toNat : Int)), .v (.int .u64 ((hi f).toNat : Int))]]⟩)], [8, 0]⟩) (μ := fun v => n - v.1) ⟨0, Nat.zero_le _⟩ ?_ (fun ⟨v, hve⟩ => ?_)
  · have h0 : pwB 0 (inS f) = 1 := rfl
    (refine weak_id rfl ?_ ?_ <;> ((try simp only [List.mem_cons, List.not_mem_nil, or_false, forall_eq_or_imp, forall_eq]); (try simp (disch := omega) [i64w, *])))
  dsimp only
  by_cases hvn : v < n
  · have hle : (v : Int) + 1 ≤ (n : Int) := by omega
    have h1v : (1 : Int) ≤ (v : Int) + 1 := by omega
    have h128 : (v : Int) + 1 ≤ 128 := by omega
    have hov : okI ((v : Int) + 1) = true := okI_iff.2 ⟨by omega, by omega⟩
    have hwv : IntKind.i64.wrap ((v : Int) + 1 + 1) = (v : Int) + 1 + 1 := i64w (by omega) (by omega)
    have hps : pwB (v + 1) (inS f) = pwB v (inS f) * if inS f v = true then 2 else 1 := rfl
    have hm1 := hpm.out (v + 1) (by omega)
    have hb : R * pwB (v + 1) (inS f) ≤ 1024 := by
      have := Nat.mul_le_mul_left R hm1
      rw [Nat.mul_comm R (pwB n (inS f)), hVR] at this
      omega
    have hnw : n ≤ 10 := hn
    unfold inS at hps
    cases hq : sHas f ((v : Int) + 1)
    · rw [hq, if_neg (by simp), Nat.mul_one] at hps
      refine amGo PT98_ok (h := ?_)
      refine k_lp (⟨v + 1, by omega⟩ : {v : Nat // v ≤ n}) (by first | omega | (dsimp only; omega)) ?_
      dsimp only
      have e6 : pwB (v + 1) (inS f) = pwB v (inS f) := hps
      rw [e6]
      (refine weak_id rfl ?_ ?_ <;> ((try simp only [List.mem_cons, List.not_mem_nil, or_false, forall_eq_or_imp, forall_eq]); (try simp (disch := omega) [i64w, *])))
    · rw [hq, if_pos rfl] at hps
      have e6 : pwB (v + 1) (inS f) = pwB v (inS f) * 2 := hps
      rw [e6] at hb
      obtain ⟨Y, hY⟩ : ∃ Y, R * pwB v (inS f) = Y := ⟨_, rfl⟩
      have e7 : R * pwB (v + 1) (inS f) = Y * 2 := by rw [e6, ← hY, Nat.mul_assoc]
      rw [← Nat.mul_assoc, hY] at hb
      rw [hY]
      have hwm : IntKind.i64.wrap ((Y : Int) * 2) = (Y : Int) * 2 := i64w (by omega) (by omega)
      clear hY e6 hps hm1
      refine amGo PT98_ok (h := ?_)
      refine k_lp (⟨v + 1, by omega⟩ : {v : Nat // v ≤ n}) (by first | omega | (dsimp only; omega)) ?_
      dsimp only
      rw [e7]
      have e8 : ((Y * 2 : Nat) : Int) = (Y : Int) * 2 := by push_cast; rfl
      rw [e8]
      (refine weak_id rfl ?_ ?_ <;> ((try simp only [List.mem_cons, List.not_mem_nil, or_false, forall_eq_or_imp, forall_eq]); (try simp (disch := omega) [i64w, *])))
  · obtain rfl : v = n := by omega
    have hle : ¬ ((v : Int) + 1 ≤ (v : Int)) := by omega
    have e9 : R * pwB v (inS f) = V := by rw [Nat.mul_comm]; exact hVR
    rw [e9]
    refine amGo PT98_ok (h := ?_)
    ((refine post_ret (av := ?_) (by first | exact .inl rfl | exact .inr rfl) (show (Try.f6).results.toList = _ from by rw [Try.results6]) ?_ ?_); rotate_left; (focus (simp [retA, retL, ret1, lk, st, ldA, AV.cell]; rfl)); (try simp [*]))
theorem pcount_p (N : Int) (L : List (List Int)) (ts : List Int) (hN : okI N = true) (hL : okLens L = true) (ht : okIL ts = true) : FnPure Try.prog 6 [aTh N L, aInts ts] (.v (.bool true)) := by
  cases hf : fewW L ts
  · unfold aTh
    refine fn_sp TT_ok Try.func6 (c := _) rfl (by simp [Try.ntmps6]) (fun B hI0 hro => ?_)
    rw [Try.ntmps6]
    simp only [enumA]
    refine amGo PT98_ok (h := ?_)
    ((refine post_ret (av := ?_) (by first | exact .inl rfl | exact .inr rfl) (show (Try.f6).results.toList = _ from by rw [Try.results6]) ?_ ?_); rotate_left; (focus (simp [retA, retL, ret1, lk, st, ldA, AV.cell]; rfl)); (try simp [*]))
  by_cases h10 : (10 : Int) < N
  · unfold aTh
    refine fn_sp TT_ok Try.func6 (c := _) rfl (by simp [Try.ntmps6]) (fun B hI0 hro => ?_)
    rw [Try.ntmps6]
    simp only [enumA]
    refine amGo PT98_ok (h := ?_)
    ((refine post_ret (av := ?_) (by first | exact .inl rfl | exact .inr rfl) (show (Try.f6).results.toList = _ from by rw [Try.results6]) ?_ ?_); rotate_left; (focus (simp [retA, retL, ret1, lk, st, ldA, AV.cell]; rfl)); (try simp [*]))
  by_cases hv : validT N L ts = true
  · obtain ⟨_, h0, _⟩ := valid_good hv
    obtain ⟨n, rfl⟩ : ∃ n : Nat, N = n := ⟨N.toNat, by omega⟩
    exact pcount_ok n L ts (by omega) hL ht hv hf
  · obtain ⟨h1, h2⟩ := fewW_len hf
    have htr := okInts_il ht (by omega)
    have e1 : splL N L ts = [] := if_neg hv
    have e2 : splF N L ts = 0#128 := if_neg hv
    have e3 : splEr N L ts = 1 := if_neg hv
    have hp0 : aParts [] = .sl 3 [] := rfl
    have hs0 : aSet 0#128 = .agg [.v (.int .u64 0), .v (.int .u64 0)] := rfl
    have h10' : N ≤ 10 := by omega
    clear hv
    unfold aTh
    refine fn_sp TT_ok Try.func6 (c := _) rfl (by simp [Try.ntmps6]) (fun B hI0 hro => ?_)
    rw [Try.ntmps6]
    simp only [enumA]
    refine amGo PT98_ok (h := ?_)
    ((refine post_ret (av := ?_) (by first | exact .inl rfl | exact .inr rfl) (show (Try.f6).results.toList = _ from by rw [Try.results6]) ?_ ?_); rotate_left; (focus (simp [retA, retL, ret1, lk, st, ldA, AV.cell]; rfl)); (try simp [*]))
namespace partsCount
set_option maxRecDepth 100000 in
theorem lifted (os : Os) (started : os.Started) (H : Type) (enc : TypeId × Value → H) :
    ReturnsInHanded {} Try.checked os 6 .any (Rows.partsCountSpec.pre6 enc Try.prog Go.Proofs.Try.f6 Rows.partsCountRow.domain false) (Rows.partsCountSpec.post enc Try.prog Go.Proofs.Try.f6 false true false false) := by
  refine returnsInHanded_of_change (C := Try.checked) (by kernel_rfl) started (by kernel_rfl) Try.func6
    (ChangeSpec.witness6 (enc := enc) (C := Try.checked) false ⟨#[], #[.agg #[.int .i64 0, .slice none 0 0], .slice none 0 0], []⟩ 8 (by kernel_rfl) (by kernel_rfl) (by kernel_rfl) (by kernel_rfl)) ?_
  intro W base args ds gs before hval0 hW hcnd _
  have hval : ∀ (j : Nat) t v, (Go.Proofs.Try.f6).params[j]? = some t → args[j]? = some v → Value.okWide Try.prog W .any base t v := hval0
  have hW2 := hW
  obtain ⟨p, q, hA0, hV, _, _, _⟩ := hW
  have hA : DataW.TrodAll enc Try.prog W 0 (fun _ => true) true (Go.Proofs.Try.f6).params.toList args.toList ds p := hA0
  rw [Try.params6] at hA hval
  clear hA0 hval0 hcnd
  obtain ⟨rfl, _⟩ := trodVars_none hV
  obtain ⟨v0, vs0, d0, ds0, p0, q0, hargs, rfl, _, h0, r0⟩ := trodAll_cons hA
  obtain ⟨v1, vs1, d1, ds1, p1, q1, rfl, rfl, _, h1, r1⟩ := trodAll_cons r0
  obtain ⟨rfl, rfl, _⟩ := trodAll_nil r1
  obtain rfl : args = #[v0, v1] := by cases args; simp_all
  obtain ⟨N, L, ra0, oN0, oL0⟩ := arg_th (hval 0 _ v0 rfl rfl) h0
  obtain ⟨ts, ra1, o1⟩ := arg_ints (hval 1 _ v1 rfl rfl) h1
  refine law_of_pure (glob0 _) (avs := [.agg [.v (.int .i64 N), aRows L], aInts ts]) (by kernel_rfl) hW2 rfl (rec_ok (by kernel_rfl)) (tb := 4) rfl Try.underlying4 rfl rfl rfl rfl (fun i hi => ?_) (pcount_p N L ts oN0 oL0 o1)
  match i, hi with
  | 0, _ => exact ra0
  | 1, _ => exact ra1
theorem proved : Rows.PartsCountSaid :=
  OpenClaim.holds_of_wide 6 Go.Proofs.Try.f6 rfl rfl rfl rfl rfl rfl rfl ⟨rfl, rfl, rfl, rfl, rfl⟩ rfl rfl rfl rfl rfl (by kernel_rfl) Try.func6 (by kernel_rfl)
    (of_decide_eq_true (by kernel_rfl)) (by unfold Func.isWrapper; first | (rw [if_pos (by decide +kernel)]; kernel_rfl) | (rw [if_neg (by decide +kernel)]; exact ⟨rfl, rfl⟩))
    (fun os started H enc _ => lifted os started H enc)
end partsCount
end Go.Proofs.Ytekeidhndlnghaa
