/- censusref23.Verify; no condition. -/
import Derived.Test.YtllkogdgmmcfgaaGreatDoorRn23
import Derived.Test.YtllkogdgmmcfgaaGreatDoorWl
namespace Go.Proofs.YtllkogdgmmcfgaaGreatDoor
set_option linter.unusedVariables false
set_option linter.unusedSimpArgs false
set_option linter.unusedSectionVars false
open Go.RowKit
open Wlk
attribute [-simp] List.getD_eq_getElem?_getD
set_option maxRecDepth 100000
set_option maxHeartbeats 16000000 in
theorem rver_p (N : Int) (L : List (List Int)) (M : Int) (ns : List Nd) (cl : List Cl) (hN : okI N = true) (hL : okRows L = true) (hM : okI M = true) (hns : okNs ns = true) (hcl : okCl cl = true) : FnPure Tryz.prog 13 [aTh N L, aNet M ns, aCls cl] (aV (verV N L M ns cl)) := by
 have hLl := okRows_len hL
 have hNl := okNs_len hns
 have hCl := okCl_len hcl
 unfold aTh aNet aNds aCls
 refine fn_sp TT_ok Tryz.func13 (c := _) rfl (by simp [Tryz.ntmps13]) (fun B hI0 hro => ?_)
 rw [Tryz.ntmps13]
 simp only [enumA]
 refine amStr (h := ?_)
 refine amReg PT246_ok (h := ?_)
 refine amStr (h := ?_)
 by_cases hz : checkT N L = 0
 ·by_cases hv : validN M ns = true
  ·by_cases hNM : N = M
   ·subst hNM
    by_cases hlen : cl.length = ns.length
    ·have hp : Prf N L ns cl := ⟨hN, hL, hns, hcl, hz, hv, hlen⟩
     have hpB := prfB_of hp
     have hvv : verV N L N ns cl = outV ((List.range ns.length).find? (badV N L ns cl)) := by unfold verV; rw [if_pos ⟨hz, hv, rfl, hlen⟩]
     rw [hvv]
     obtain ⟨res, hres⟩ : ∃ res, (List.range ns.length).find? (badV N L ns cl) = res := ⟨_, rfl⟩
     rw [hres]
     obtain ⟨n1, n2⟩ := valid_lenV hv
     have hw1 : IntKind.i64.wrap ((ns.length : Int) - 1) = (ns.length : Int) - 1 := i64w (by omega) (by omega)
     have hlb : ((cl.length : Int) != (ns.length : Int)) = false := by simp; omega
     have hnA : rNormA N L = .tup [.agg [.v (.int .i64 N), aRows (normL L)], .v (.int .i64 0)] := by unfold rNormA; rw [if_pos hz, normL_rNorm hz]; rfl
     have hnr := okRows_check (normL_check hz)
     obtain ⟨Y, hY⟩ : ∃ Y, normL L = Y := ⟨_, rfl⟩
     rw [hY] at hnA hnr
     have HST := Lib.hid (show ((List.range ns.length).drop 0).find? (badV N L ns cl) = res by rw [List.drop_zero]; exact hres)
     clear hvv hres
     refine amReg PT246_ok (h := ?_)
     refine amStr (h := ?_)
     refine amReg PT246_ok (h := ?_)
     refine amStr (h := ?_)
     refine amReg PT246_ok (h := ?_)
     refine amStr (h := ?_)
     refine s_loop (J := fun k : {k : Nat // k ≤ ns.length ∧ Hid (((List.range ns.length).drop k).find? (badV N L ns cl) = res)} => ⟨112, [(2, aCls cl), (3, .ptr 0 0 0), (4, .ptr 1 0 0), (6, .v (.int .i64 0)), (7, .v (.int .i64 0)), (8, .ptr 50 0 0), (9, .v (.int .i64 (k.1 : Int)))], [(50, ⟨68, 5, [[.v (.int .i64 N), aRows L, .v (.int .i64 N), aNds ns, aCls cl]]⟩), (0, ⟨24, 2, [[.v (.int .i64 N), aRows L]]⟩), (1, ⟨28, 2, [[.v (.int .i64 N), aNds ns]]⟩)], [50, 1, 0]⟩) (μ := fun k => ns.length - k.1) ⟨0, Nat.zero_le _, HST⟩ ?_ (fun ⟨i, hi, HK⟩ => ?_)
     ·(refine weak_of (fun q => if q = 50 then 6 else q) ⟨rfl, ?_, ?_, ?_⟩ <;> ((try simp only [List.mem_cons, List.not_mem_nil, or_false, forall_eq_or_imp, forall_eq]); (try simp (disch := omega) [lk, AV.ids, idsL, idsLL, AV.ren, renL, renLL, i64w, *])))
      all_goals ((repeat' refine And.intro ?_ ?_) <;> first | rfl | trace_state)
     clear HST
     try dsimp only at hi HK
     try dsimp only
     unfold aNds aCls
     refine amStr (h := ?_)
     refine amReg PT246_ok (h := ?_)
     refine amStr (h := ?_)
     (focus ((with_reducible refine sp_cond (b := ?_) ?_ (fun hc => ?_) (fun hc => ?_)); rotate_left; (focus (first | rfl | (simp [lk, AS.ev]; rfl))); all_goals (try simp at hc)))
     ·have hii : i < ns.length := by omega
      clear hc
      have hiI : (i : Int) < (ns.length : Int) := by omega
      have hi0 : (0 : Int) ≤ (i : Int) := by omega
      have hio : okI (i : Int) = true := okI_iff.2 ⟨by omega, by omega⟩
      have hwi : IntKind.i64.wrap ((i : Int) + 1) = (i : Int) + 1 := i64s i (by omega)
      have hgi := nds_get hii
      have hin := inp_nat ns 4 i
      have HF := Lib.hid (find_step HK.out hii).2
      have HY := Lib.hid (find_step HK.out hii).1
      have hbad : badV N L ns cl i = (if nedB ns i = true then (match rsV L N (clN cl (i : Int)) with
       | none => true
       | some r => !acptV N L ns cl (i : Int) r || (decide (i = ns.length - 1) && !decide (r = normL L))) else !knwB ns i) := rfl
      have hknw : knwB ns i = (decide ((ns.getD i nd0).1 = 2) || (inpB ns 4 i && decide ((ns.getD i nd0).1 = 3))) := rfl
      rw [hY] at hbad
      rw [hknw] at hbad
      obtain ⟨K, hK⟩ : ∃ K, (ns.getD i nd0).1 = K := ⟨_, rfl⟩
      obtain ⟨l, hl⟩ : ∃ l, (ns.getD i nd0).2.1 = l := ⟨_, rfl⟩
      obtain ⟨is, his⟩ : ∃ is, (ns.getD i nd0).2.2 = is := ⟨_, rfl⟩
      rw [hK] at hbad
      rw [hK, hl, his] at hgi
      obtain ⟨b4, hb4⟩ : ∃ b, inpB ns 4 i = b := ⟨_, rfl⟩
      obtain ⟨nb, hnb⟩ : ∃ b, nedB ns i = b := ⟨_, rfl⟩
      rw [hb4] at hin hbad
      rw [hnb] at hbad
      rw [hbad] at HF HY
      clear hbad hknw hK hl his hb4
      have h4o : okI 4 = true := rfl
      cases nb
      ·rw [if_neg (by decide)] at HF HY
       by_cases h2 : K = 2
       ·have h2b : (K == 2) = true := by simpa using h2
        have h2c : (K != 2) = false := by simpa using h2
        have HT := Lib.hid (HF.out (by rw [decide_eq_true h2]; rfl))
        clear HF HY
        refine amStr (h := ?_)
        refine amReg PT246_ok (h := ?_)
        refine amStr (h := ?_)
        refine amReg PT246_ok (h := ?_)
        refine amStr (h := ?_)
        refine amReg PT246_ok (h := ?_)
        refine amStr (h := ?_)
        refine amReg PT246_ok (h := ?_)
        refine k_lp (⟨i + 1, hii, HT⟩ : {k : Nat // k ≤ ns.length ∧ Hid (((List.range ns.length).drop k).find? (badV N L ns cl) = res)}) (by dsimp only; omega) ?_
        (refine weak_id rfl ?_ ?_ <;> ((try simp only [List.mem_cons, List.not_mem_nil, or_false, forall_eq_or_imp, forall_eq]); (try simp (disch := omega) [i64w, *])))
        all_goals ((repeat' refine And.intro ?_ ?_) <;> first | rfl | trace_state)
       ·have h2b : (K == 2) = false := by simpa using h2
        have h2c : (K != 2) = true := by simpa using h2
        by_cases h3 : K = 3
        ·have h3b : (K == 3) = true := by simpa using h3
         cases b4
         ·skip
          have hT : res = some i := HY.out (by rw [decide_eq_false h2]; rfl)
          subst hT
          clear HF HY
          refine amStr (h := ?_)
          refine amReg PT246_ok (h := ?_)
          refine amStr (h := ?_)
          refine amReg PT246_ok (h := ?_)
          refine amStr (h := ?_)
          refine amReg PT246_ok (h := ?_)
          refine amStr (h := ?_)
          (refine amRt Tryz.results13 (h := ?_); try simp [*])
          all_goals rfl
         ·skip
          have HT := Lib.hid (HF.out (by rw [decide_eq_false h2, decide_eq_true h3]; rfl))
          clear HF HY
          refine amStr (h := ?_)
          refine amReg PT246_ok (h := ?_)
          refine amStr (h := ?_)
          refine amReg PT246_ok (h := ?_)
          refine amStr (h := ?_)
          refine amReg PT246_ok (h := ?_)
          refine amStr (h := ?_)
          refine amReg PT246_ok (h := ?_)
          refine k_lp (⟨i + 1, hii, HT⟩ : {k : Nat // k ≤ ns.length ∧ Hid (((List.range ns.length).drop k).find? (badV N L ns cl) = res)}) (by dsimp only; omega) ?_
          (refine weak_id rfl ?_ ?_ <;> ((try simp only [List.mem_cons, List.not_mem_nil, or_false, forall_eq_or_imp, forall_eq]); (try simp (disch := omega) [i64w, *])))
          all_goals ((repeat' refine And.intro ?_ ?_) <;> first | rfl | trace_state)
        ·have h3b : (K == 3) = false := by simpa using h3
         have hT : res = some i := HY.out (by rw [decide_eq_false h2, decide_eq_false h3, Bool.and_false]; rfl)
         subst hT
         clear HF HY
         refine amStr (h := ?_)
         refine amReg PT246_ok (h := ?_)
         refine amStr (h := ?_)
         refine amReg PT246_ok (h := ?_)
         refine amStr (h := ?_)
         refine amReg PT246_ok (h := ?_)
         refine amStr (h := ?_)
         (refine amRt Tryz.results13 (h := ?_); try simp [*])
         all_goals rfl
      ·rw [if_pos rfl] at HF HY
       cases hx : rsV L N (clN cl (i : Int)) with
       | none =>
        rw [hx] at HF HY
        have hA : resP N (none : Option (List (List Int))) = .tup [.agg [.v (.int .i64 0), .v (.slice none 0 0)], .v (.bool false)] := rfl
        have hT : res = some i := HY.out rfl
        subst hT
        clear HF HY
        refine amStr (h := ?_)
        refine amReg PT246_ok (h := ?_)
        refine amStr (h := ?_)
        refine amReg PT246_ok (h := ?_)
        refine amStr (h := ?_)
        refine amReg PT246_ok (h := ?_)
        refine amStr (h := ?_)
        refine amReg PT246_ok (h := ?_)
        refine amStr (h := ?_)
        refine amReg PT246_ok (h := ?_)
        refine amStr (h := ?_)
        refine amReg PT246_ok (h := ?_)
        refine amStr (h := ?_)
        (refine amRt Tryz.results13 (h := ?_); try simp [*])
        all_goals rfl
       | some r =>
        rw [hx] at HF HY
        simp only at HF HY
        have hA : resP N (some r) = .tup [.agg [.v (.int .i64 N), aRows r], .v (.bool true)] := rfl
        obtain ⟨hzr, hnrr⟩ := rs_norm hz hx
        have hrR := okRows_check hzr
        have hnil := nilB_of hnrr
        clear hnrr
        obtain ⟨ac, hac⟩ : ∃ b, acptV N L ns cl (i : Int) r = b := ⟨_, rfl⟩
        rw [hac] at HF HY
        cases ac
        ·skip
         have hT : res = some i := HY.out rfl
         subst hT
         clear HF HY
         refine amStr (h := ?_)
         refine amReg PT246_ok (h := ?_)
         refine amStr (h := ?_)
         refine amReg PT246_ok (h := ?_)
         refine amStr (h := ?_)
         refine amReg PT246_ok (h := ?_)
         refine amStr (h := ?_)
         refine amReg PT246_ok (h := ?_)
         refine amStr (h := ?_)
         refine amReg PT246_ok (h := ?_)
         refine amStr (h := ?_)
         refine amReg PT246_ok (h := ?_)
         refine amStr (h := ?_)
         (refine amRt Tryz.results13 (h := ?_); try simp [*])
         all_goals rfl
        ·rw [Bool.not_true, Bool.false_or] at HF HY
         by_cases hla : i = ns.length - 1
         ·have hlaB : ((i : Int) == (ns.length : Int) - 1) = true := by rw [beq_iff_eq]; omega
          rw [decide_eq_true hla, Bool.true_and] at HF HY
          clear hla
          cases hsm : decide (r = Y)
          ·skip
           have hT : res = some i := HY.out (by rw [hsm]; rfl)
           subst hT
           clear HF HY
           refine amStr (h := ?_)
           refine amReg PT246_ok (h := ?_)
           refine amStr (h := ?_)
           refine amReg PT246_ok (h := ?_)
           refine amStr (h := ?_)
           refine amReg PT246_ok (h := ?_)
           refine amStr (h := ?_)
           refine amReg PT246_ok (h := ?_)
           refine amStr (h := ?_)
           refine amReg PT246_ok (h := ?_)
           refine amStr (h := ?_)
           refine amReg PT246_ok (h := ?_)
           refine amStr (h := ?_)
           refine amReg PT246_ok (h := ?_)
           refine amStr (h := ?_)
           refine amReg PT246_ok (h := ?_)
           refine amStr (h := ?_)
           (refine amRt Tryz.results13 (h := ?_); try simp [*])
           all_goals rfl
          ·skip
           have HT := Lib.hid (HF.out (by rw [hsm]; rfl))
           clear HF HY
           refine amStr (h := ?_)
           refine amReg PT246_ok (h := ?_)
           refine amStr (h := ?_)
           refine amReg PT246_ok (h := ?_)
           refine amStr (h := ?_)
           refine amReg PT246_ok (h := ?_)
           refine amStr (h := ?_)
           refine amReg PT246_ok (h := ?_)
           refine amStr (h := ?_)
           refine amReg PT246_ok (h := ?_)
           refine amStr (h := ?_)
           refine amReg PT246_ok (h := ?_)
           refine amStr (h := ?_)
           refine amReg PT246_ok (h := ?_)
           refine amStr (h := ?_)
           refine amReg PT246_ok (h := ?_)
           refine k_lp (⟨i + 1, hii, HT⟩ : {k : Nat // k ≤ ns.length ∧ Hid (((List.range ns.length).drop k).find? (badV N L ns cl) = res)}) (by dsimp only; omega) ?_
           (refine weak_id rfl ?_ ?_ <;> ((try simp only [List.mem_cons, List.not_mem_nil, or_false, forall_eq_or_imp, forall_eq]); (try simp (disch := omega) [i64w, *])))
           all_goals ((repeat' refine And.intro ?_ ?_) <;> first | rfl | trace_state)
         ·have hlaB : ((i : Int) == (ns.length : Int) - 1) = false := by rw [beq_eq_false_iff_ne]; omega
          rw [decide_eq_false hla, Bool.false_and] at HF HY
          clear hla
          have HT := Lib.hid (HF.out rfl)
          clear HF HY
          refine amStr (h := ?_)
          refine amReg PT246_ok (h := ?_)
          refine amStr (h := ?_)
          refine amReg PT246_ok (h := ?_)
          refine amStr (h := ?_)
          refine amReg PT246_ok (h := ?_)
          refine amStr (h := ?_)
          refine amReg PT246_ok (h := ?_)
          refine amStr (h := ?_)
          refine amReg PT246_ok (h := ?_)
          refine amStr (h := ?_)
          refine amReg PT246_ok (h := ?_)
          refine amStr (h := ?_)
          refine amReg PT246_ok (h := ?_)
          refine amStr (h := ?_)
          refine amReg PT246_ok (h := ?_)
          refine k_lp (⟨i + 1, hii, HT⟩ : {k : Nat // k ≤ ns.length ∧ Hid (((List.range ns.length).drop k).find? (badV N L ns cl) = res)}) (by dsimp only; omega) ?_
          (refine weak_id rfl ?_ ?_ <;> ((try simp only [List.mem_cons, List.not_mem_nil, or_false, forall_eq_or_imp, forall_eq]); (try simp (disch := omega) [i64w, *])))
          all_goals ((repeat' refine And.intro ?_ ?_) <;> first | rfl | trace_state)
     ·obtain rfl : i = ns.length := by omega
      clear hc
      have hT : res = none := by have := HK.out; rw [List.drop_eq_nil_of_le (by simp)] at this; exact this.symm
      subst hT
      refine amStr (h := ?_)
      refine amReg PT246_ok (h := ?_)
      refine amStr (h := ?_)
      (refine amRt Tryz.results13 (h := ?_); try simp [*])
      all_goals rfl
    ·have hno : ¬ (checkT N L = 0 ∧ validN N ns = true ∧ N = N ∧ cl.length = ns.length) := fun h => hlen h.2.2.2
     have hlb : ((cl.length : Int) != (ns.length : Int)) = true := by simp; omega
     rw [sp_no _ _ _ _ _ hno]
     unfold aV
     refine amReg PT246_ok (h := ?_)
     refine amStr (h := ?_)
     refine amReg PT246_ok (h := ?_)
     refine amStr (h := ?_)
     (refine amRt Tryz.results13 (h := ?_); try simp [*])
     all_goals rfl
   ·have hno : ¬ (checkT N L = 0 ∧ validN M ns = true ∧ N = M ∧ cl.length = ns.length) := fun h => hNM h.2.2.1
    have hlb : (N != M) = true := by simpa using hNM
    rw [sp_no _ _ _ _ _ hno]
    unfold aV
    refine amReg PT246_ok (h := ?_)
    refine amStr (h := ?_)
    refine amReg PT246_ok (h := ?_)
    refine amStr (h := ?_)
    (refine amRt Tryz.results13 (h := ?_); try simp [*])
    all_goals rfl
  ·have hno : ¬ (checkT N L = 0 ∧ validN M ns = true ∧ N = M ∧ cl.length = ns.length) := fun h => hv h.2.1
   have hvf : validN M ns = false := by simpa using hv
   rw [sp_no _ _ _ _ _ hno]
   unfold aV
   refine amReg PT246_ok (h := ?_)
   refine amStr (h := ?_)
   refine amReg PT246_ok (h := ?_)
   refine amStr (h := ?_)
   (refine amRt Tryz.results13 (h := ?_); try simp [*])
   all_goals rfl
 ·have hno : ¬ (checkT N L = 0 ∧ validN M ns = true ∧ N = M ∧ cl.length = ns.length) := fun h => hz h.1
  have hzb : (checkT N L != 0) = true := by simpa using hz
  rw [sp_no _ _ _ _ _ hno]
  unfold aV
  refine amReg PT246_ok (h := ?_)
  refine amStr (h := ?_)
  refine amReg PT246_ok (h := ?_)
  refine amStr (h := ?_)
  (refine amRt Tryz.results13 (h := ?_); try simp [*])
  all_goals rfl
@[simp] def g_r23Ver : List AV → Option (AV × Bool)
 | [.agg [.v (.int .i64 N), a0], .agg [.v (.int .i64 M), a1], a2] => (match toRows a0 with | some L => (match toNds a1 with | some ns => (match toCls a2 with | some cl => if (okI N && okRows L && okI M && okNs ns && okCl cl) = true then some (.tup [.v (.int .i64 (verV N L M ns cl).1), .v (.int .i64 (verV N L M ns cl).2)], false) else none | none => none) | none => none) | none => none)
 | _ => none
theorem e_r23Ver : EntOk Tryz.prog 13 g_r23Ver := ent_pure (by kernel_rfl) fun args r fr h => by
 unfold g_r23Ver at h
 split at h
 ·rename_i N a0 M a1 a2
  split at h
  ·rename_i L t0
   split at h
   ·rename_i ns t1
    split at h
    ·rename_i cl t2
     split at h
     ·rename_i hc
      simp only [Bool.and_eq_true] at hc
      obtain ⟨⟨⟨⟨m0, o0⟩, m1⟩, o1⟩, o2⟩ := hc
      cases h
      exact ⟨FnPure.cov (rver_p N L M ns cl m0 o0 m1 o1 o2) (.cons (cov_th _ (cov_rows t0)) (.cons (cov_th _ (cov_nds t1)) (.cons (cov_cls t2) .nil))), rfl⟩
     ·cases h
    ·cases h
   ·cases h
  ·cases h
 ·cases h

def l247 : List (FuncId × (List AV → Option (AV × Bool))) :=
 (13, g_r23Ver) :: l246
theorem l247_ok : ∀ p ∈ l247, EntOk Tryz.prog p.1 p.2 := ent_cons e_r23Ver (l246_ok)
def PT247 : PTab := tab l247
theorem PT247_ok : PTok Tryz.prog PT247 := tab_ok l247_ok
@[simp] theorem PT247_r23Ver : PT247 13 = g_r23Ver := rfl
@[simp] theorem PT247_old (f : FuncId) (h : decide (f ≠ 13) = true) : PT247 f = PT246 f := tab_old (of_decide_eq_true h)
end Go.Proofs.YtllkogdgmmcfgaaGreatDoor
