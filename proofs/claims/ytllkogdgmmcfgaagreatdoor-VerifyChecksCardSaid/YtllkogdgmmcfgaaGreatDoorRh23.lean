/- censusref23.has, empty, Given, same, meet; no condition. -/
import Derived.Test.YtllkogdgmmcfgaaGreatDoorWxG
import Derived.Test.YtllkogdgmmcfgaaGreatDoorWl
import Derived.Test.YtllkogdgmmcfgaaGreatDoorRg23
namespace Go.Proofs.YtllkogdgmmcfgaaGreatDoor
set_option linter.unusedVariables false
set_option linter.unusedSimpArgs false
set_option linter.unusedSectionVars false
open Go.RowKit
open Wlk
attribute [-simp] List.getD_eq_getElem?_getD
set_option maxRecDepth 100000
@[simp] def g_r4InC : List AV → Option (AV × Bool)
 | [a0, .v (.int .i64 v)] => (match toSet a0 with | some s => if (okI v && (decide (1 ≤ v) && decide (v ≤ 128))) = true then some (.v (.bool (sHas s v)), true) else none | none => none)
 | _ => none
theorem e_r4InC : EntOk Tryz.prog 65 g_r4InC := ent_fresh (by kernel_rfl) fun args r fr h => by
 unfold g_r4InC at h
 split at h
 ·rename_i a0 v
  split at h
  ·rename_i s t0
   split at h
   ·rename_i hc
    simp only [Bool.and_eq_true] at hc
    obtain ⟨o1, hk⟩ := hc
    cases h
    exact fresh_gives (fun G => .v _) fun S w vs hS hn hv => by
     obtain ⟨u0, u1, rfl, r0, r1⟩ := args2 hn hv
     have q0 := toSet_rv t0 r0
     subst q0
     have q1 := r1.v_eq
     subst q1
     exact ref04In_c s v w (by simp at hk; exact hk.1) (by simp at hk; exact hk.2)
   ·cases h
  ·cases h
 ·cases h

@[simp] def g_r4SameC : List AV → Option (AV × Bool)
 | [a0, a1] => (match toInts a0 with | some xs => (match toInts a1 with | some ys => if (okInts xs && okInts ys) = true then some (.v (.bool (decide (xs = ys))), true) else none | none => none) | none => none)
 | _ => none
theorem e_r4SameC : EntOk Tryz.prog 68 g_r4SameC := ent_fresh (by kernel_rfl) fun args r fr h => by
 unfold g_r4SameC at h
 split at h
 ·rename_i a0 a1
  split at h
  ·rename_i xs t0
   split at h
   ·rename_i ys t1
    split at h
    ·rename_i hc
     simp only [Bool.and_eq_true] at hc
     obtain ⟨o0, o1⟩ := hc
     cases h
     exact fresh_gives (fun G => .v _) fun S w vs hS hn hv => by
      obtain ⟨u0, u1, rfl, r0, r1⟩ := args2 hn hv
      have q0 := ints_of hS r0 t0 o0
      have q1 := ints_of hS r1 t1 o1
      exact (ref04Same_c q0 q1).mono fun e w2 h2 => by obtain ⟨he, q, hw⟩ := h2; exact ⟨he, hw ▸ ⟨rfl, rfl, rfl, Nat.le_refl _, fun _ _ => rfl⟩⟩
    ·cases h
   ·cases h
  ·cases h
 ·cases h

def l240 : List (FuncId × (List AV → Option (AV × Bool))) :=
 (65, g_r4InC) :: (68, g_r4SameC) :: l207
theorem l240_ok : ∀ p ∈ l240, EntOk Tryz.prog p.1 p.2 := ent_cons e_r4InC (ent_cons e_r4SameC (l207_ok))
def PT240 : PTab := tab l240
theorem PT240_ok : PTok Tryz.prog PT240 := tab_ok l240_ok
@[simp] theorem PT240_r4InC : PT240 65 = g_r4InC := rfl
@[simp] theorem PT240_r4SameC : PT240 68 = g_r4SameC := rfl
@[simp] theorem PT240_old (f : FuncId) (h : decide (f ≠ 65 ∧ f ≠ 68) = true) : PT240 f = PT207 f := (fun h => Eq.trans (tab_old h.1) (tab_old h.2)) (of_decide_eq_true h)
theorem one_iff {c : List Int} {l : Int} : c = [l] ↔ c.length = 1 ∧ c.getD 0 0 = l := by
 constructor
 ·rintro rfl; exact ⟨rfl, rfl⟩
 ·rintro ⟨h1, h2⟩
  match c, h1 with
  | [a], _ => rw [show a = l from h2]
theorem any_eqL {R : List (List Int)} {d : List Int} : (R.any fun c => decide (c = d)) = decide (d ∈ R) := by
 rw [Bool.eq_iff_iff, List.any_eq_true, decide_eq_true_eq]
 exact ⟨fun ⟨x, hx, h⟩ => of_decide_eq_true h ▸ hx, fun h => ⟨d, h, decide_eq_true rfl⟩⟩
set_option maxHeartbeats 4000000 in
theorem rhas_p (N : Int) (R : List (List Int)) (l : Int) (hR : okRows R = true) (hl : okI l = true) : FnPure Tryz.prog 63 [aTh N R, .v (.int .i64 l)] (.v (.bool (decide ([l] ∈ R)))) := by
 have hm := okRows_len hR
 rw [← any_eqL]
 obtain ⟨res, hres⟩ : ∃ res, (R.any fun c => decide (c = [l])) = res := ⟨_, rfl⟩
 rw [hres]
 have HR := Lib.hid hres
 clear hres
 unfold aTh
 refine fn_sp TT_ok Tryz.func63 (c := _) rfl (by simp [Tryz.ntmps63]) (fun B hI0 hro => ?_)
 rw [Tryz.ntmps63]
 simp only [enumA]
 refine amGo PT240_ok (h := ?_)
 refine s_loop (J := fun k : {k : Nat // k ≤ R.length ∧ Hid (((R.take k).any fun c => decide (c = [l])) = false)} => ⟨31, [(1, .v (.int .i64 l)), (2, .ptr 0 0 0), (4, .v (.bool false)), (5, .v (.int .i64 (k.1 : Int)))], [(0, ⟨24, 2, [[.v (.int .i64 N), aRows R]]⟩)], [0]⟩) (μ := fun k => R.length - k.1) ⟨0, Nat.zero_le _, Lib.hid rfl⟩ ?_ (fun ⟨k, hk, HK⟩ => ?_)
 ·(refine weak_id rfl ?_ ?_ <;> ((try simp only [List.mem_cons, List.not_mem_nil, or_false, forall_eq_or_imp, forall_eq]); (try simp (disch := omega) [i64w, *])))
 try dsimp only at hk HK
 try dsimp only
 refine amStr (h := ?_)
 refine amReg PT240_ok (h := ?_)
 refine amStr (h := ?_)
 (focus ((with_reducible refine sp_cond (b := ?_) ?_ (fun hc => ?_) (fun hc => ?_)); rotate_left; (focus (first | rfl | (simp [lk, AS.ev]; rfl))); all_goals (try simp at hc)))
 ·have hkk : k < R.length := by omega
  clear hc
  have hki : (k : Int) < (R.length : Int) := by omega
  have hwk : IntKind.i64.wrap ((k : Int) + 1) = (k : Int) + 1 := i64s k (by omega)
  have HY := Lib.hid (any_take_yes (f := fun c => decide (c = [l])) (d := []) hkk)
  have HN := Lib.hid (any_take_step (f := fun c => decide (c = [l])) (d := []) hkk HK.out)
  have hci := okInts_len (okRows_at hR k)
  obtain ⟨c, hcc⟩ : ∃ c, R.getD k [] = c := ⟨_, rfl⟩
  rw [hcc] at HY HN hci
  have HC := Lib.hid (one_iff (c := c) (l := l))
  by_cases h1 : c.length = 1
  ·have h1b : ((c.length : Int) == 1) = true := by rw [beq_iff_eq]; omega
   have h10 : 0 < c.length := by omega
   have h10i : (0 : Int) < (c.length : Int) := by omega
   by_cases h2 : c.getD 0 0 = l
   ·have h2b : (c.getD 0 0 == l) = true := by simpa using h2
    have hT : res = true := by rw [← HR.out]; exact HY.out (decide_eq_true (HC.out.2 ⟨h1, h2⟩))
    subst hT
    clear h1 h2
    refine amStr (h := ?_)
    refine amReg PT240_ok (h := ?_)
    refine amStr (h := ?_)
    refine amReg PT240_ok (h := ?_)
    refine amStr (h := ?_)
    (refine amRt Tryz.results63 (h := ?_); try simp [*])
   ·have h2b : (c.getD 0 0 == l) = false := by simpa using h2
    have HT := Lib.hid (HN.out (decide_eq_false fun e => h2 (HC.out.1 e).2))
    clear h1 h2
    refine amStr (h := ?_)
    refine amReg PT240_ok (h := ?_)
    refine amStr (h := ?_)
    refine amReg PT240_ok (h := ?_)
    refine k_lp (⟨k + 1, hkk, HT⟩ : {k : Nat // k ≤ R.length ∧ Hid (((R.take k).any fun c => decide (c = [l])) = false)}) (by dsimp only; omega) ?_
    (refine weak_id rfl ?_ ?_ <;> ((try simp only [List.mem_cons, List.not_mem_nil, or_false, forall_eq_or_imp, forall_eq]); (try simp (disch := omega) [i64w, *])))
  ·have h1b : ((c.length : Int) == 1) = false := by rw [beq_eq_false_iff_ne]; omega
   have HT := Lib.hid (HN.out (decide_eq_false fun e => h1 (HC.out.1 e).1))
   clear h1
   refine amStr (h := ?_)
   refine amReg PT240_ok (h := ?_)
   refine amStr (h := ?_)
   refine amReg PT240_ok (h := ?_)
   refine k_lp (⟨k + 1, hkk, HT⟩ : {k : Nat // k ≤ R.length ∧ Hid (((R.take k).any fun c => decide (c = [l])) = false)}) (by dsimp only; omega) ?_
   (refine weak_id rfl ?_ ?_ <;> ((try simp only [List.mem_cons, List.not_mem_nil, or_false, forall_eq_or_imp, forall_eq]); (try simp (disch := omega) [i64w, *])))
 ·obtain rfl : k = R.length := by omega
  clear hc
  have hT : res = false := by have := HK.out; rw [List.take_length] at this; rw [← HR.out, this]
  subst hT
  refine amStr (h := ?_)
  refine amReg PT240_ok (h := ?_)
  refine amStr (h := ?_)
  (refine amRt Tryz.results63 (h := ?_); try simp [*])
set_option maxHeartbeats 4000000 in
theorem rempty_p (N : Int) (R : List (List Int)) (hR : okRows R = true) : FnPure Tryz.prog 103 [aTh N R] (.v (.bool (decide ([] ∈ R)))) := by
 have hm := okRows_len hR
 rw [← any_eqL]
 obtain ⟨res, hres⟩ : ∃ res, (R.any fun c => decide (c = [])) = res := ⟨_, rfl⟩
 rw [hres]
 have HR := Lib.hid hres
 clear hres
 unfold aTh
 refine fn_sp TT_ok Tryz.func103 (c := _) rfl (by simp [Tryz.ntmps103]) (fun B hI0 hro => ?_)
 rw [Tryz.ntmps103]
 simp only [enumA]
 refine amGo PT240_ok (h := ?_)
 refine s_loop (J := fun k : {k : Nat // k ≤ R.length ∧ Hid (((R.take k).any fun c => decide (c = [])) = false)} => ⟨18, [(1, .ptr 0 0 0), (2, .v (.bool false)), (3, .v (.int .i64 (k.1 : Int)))], [(0, ⟨24, 2, [[.v (.int .i64 N), aRows R]]⟩)], [0]⟩) (μ := fun k => R.length - k.1) ⟨0, Nat.zero_le _, Lib.hid rfl⟩ ?_ (fun ⟨k, hk, HK⟩ => ?_)
 ·(refine weak_id rfl ?_ ?_ <;> ((try simp only [List.mem_cons, List.not_mem_nil, or_false, forall_eq_or_imp, forall_eq]); (try simp (disch := omega) [i64w, *])))
 try dsimp only at hk HK
 try dsimp only
 refine amStr (h := ?_)
 refine amReg PT240_ok (h := ?_)
 refine amStr (h := ?_)
 (focus ((with_reducible refine sp_cond (b := ?_) ?_ (fun hc => ?_) (fun hc => ?_)); rotate_left; (focus (first | rfl | (simp [lk, AS.ev]; rfl))); all_goals (try simp at hc)))
 ·have hkk : k < R.length := by omega
  clear hc
  have hki : (k : Int) < (R.length : Int) := by omega
  have hwk : IntKind.i64.wrap ((k : Int) + 1) = (k : Int) + 1 := i64s k (by omega)
  have HY := Lib.hid (any_take_yes (f := fun c : List Int => decide (c = [])) (d := []) hkk)
  have HN := Lib.hid (any_take_step (f := fun c : List Int => decide (c = [])) (d := []) hkk HK.out)
  have hci := okInts_len (okRows_at hR k)
  obtain ⟨c, hcc⟩ : ∃ c, R.getD k [] = c := ⟨_, rfl⟩
  rw [hcc] at HY HN hci
  by_cases h1 : c.length = 0
  ·have h1b : ((c.length : Int) == 0) = true := by rw [beq_iff_eq]; omega
   have hT : res = true := by rw [← HR.out]; exact HY.out (decide_eq_true (List.eq_nil_of_length_eq_zero h1))
   subst hT
   clear h1
   refine amStr (h := ?_)
   refine amReg PT240_ok (h := ?_)
   refine amStr (h := ?_)
   refine amReg PT240_ok (h := ?_)
   refine amStr (h := ?_)
   (refine amRt Tryz.results103 (h := ?_); try simp [*])
  ·have h1b : ((c.length : Int) == 0) = false := by rw [beq_eq_false_iff_ne]; omega
   have HT := Lib.hid (HN.out (decide_eq_false fun e => h1 (by rw [e]; rfl)))
   clear h1
   refine amStr (h := ?_)
   refine amReg PT240_ok (h := ?_)
   refine amStr (h := ?_)
   refine amReg PT240_ok (h := ?_)
   refine k_lp (⟨k + 1, hkk, HT⟩ : {k : Nat // k ≤ R.length ∧ Hid (((R.take k).any fun c => decide (c = [])) = false)}) (by dsimp only; omega) ?_
   (refine weak_id rfl ?_ ?_ <;> ((try simp only [List.mem_cons, List.not_mem_nil, or_false, forall_eq_or_imp, forall_eq]); (try simp (disch := omega) [i64w, *])))
 ·obtain rfl : k = R.length := by omega
  clear hc
  have hT : res = false := by have := HK.out; rw [List.take_length] at this; rw [← HR.out, this]
  subst hT
  refine amStr (h := ?_)
  refine amReg PT240_ok (h := ?_)
  refine amStr (h := ?_)
  (refine amRt Tryz.results103 (h := ?_); try simp [*])
theorem rgiven23_p (N : Int) (R : List (List Int)) (l : Int) (hN : okI N = true) (hR : okRows R = true) (hl : okI l = true) (hz : checkT N R = 0) (hk : litOk l N = true) : FnPure Tryz.prog 101 [aTh N R, .v (.int .i64 l)] (aTh N (gvV R l)) := by
 have hgA : givenA N R [l] = .tup [.agg [.v (.int .i64 N), aRows (givenT [l] R)], .v (.int .i64 0)] := by unfold givenA; rw [if_pos hz, if_pos (term_one hk)]; rfl
 have hgc := givenT_check hz [l]
 have hnA : rNormA N (givenT [l] R) = .tup [.agg [.v (.int .i64 N), aRows (gvV R l)], .v (.int .i64 0)] := by unfold rNormA gvV; rw [if_pos hgc, normL_rNorm hgc]; rfl
 have hgr := okRows_check hgc
 have hnr : okRows (gvV R l) = true := okRows_check (normL_check hgc)
 have htl : toInts (.sl 1 [[.v (.int .i64 l)]]) = some [l] := rfl
 have hol : okInts [l] = true := by unfold okInts; simp [hl]
 generalize givenT [l] R = Y at hgA hnA hgr
 generalize gvV R l = Z at hnA hnr
 clear hgc hz hk
 unfold aTh
 refine fn_sp TT_ok Tryz.func101 (c := _) rfl (by simp [Tryz.ntmps101]) (fun B hI0 hro => ?_)
 rw [Tryz.ntmps101]
 simp only [enumA]
 refine amStr (h := ?_)
 refine amReg PT240_ok (h := ?_)
 refine amStr (h := ?_)
 refine s_regionL ?_
 ((iterate 2 (((with_reducible refine spl_step TT_ok PT240_ok (id := 0) (σ' := ?_) ?_ ?_); rotate_left; (focus (simp [*]; rfl))))))
 (((with_reducible refine spl_step TT_ok PT240_ok (id := 60) (σ' := ?_) ?_ ?_); rotate_left; (focus (simp [*]; rfl))))
 refine spl_frz (fun q => q == 60) ?_
 (refine spl_eq (τ := ?_) ?_ ?_; rotate_left; (focus ((try simp only [AS.frz, List.map_cons, List.map_nil]); (try simp [frzV, frzO, frzC, List.filter]); rfl)))
 ((iterate 4 (((with_reducible refine spl_step TT_ok PT240_ok (id := 0) (σ' := ?_) ?_ ?_); rotate_left; (focus (simp [*]; rfl))))))
 (((with_reducible refine spl_step TT_ok PT240_ok (id := 61) (σ' := ?_) ?_ ?_); rotate_left; (focus (simp [*]; rfl))))
 ((iterate 2 (((with_reducible refine spl_step TT_ok PT240_ok (id := 0) (σ' := ?_) ?_ ?_); rotate_left; (focus (simp [*]; rfl))))))
 refine spl_nil ?_
 refine amGo PT240_ok (h := ?_)
 (refine amRt Tryz.results101 (h := ?_); try simp [*])
set_option maxHeartbeats 4000000 in
theorem rsame23_p (N : Int) (A : List (List Int)) (M : Int) (C : List (List Int)) (hA : okRows A = true) (hB : okRows C = true) : FnPure Tryz.prog 34 [aTh N A, aTh M C] (.v (.bool (decide (A = C)))) := by
 have hm := okRows_len hA
 have hm2 := okRows_len hB
 unfold aTh
 by_cases hl : A.length = C.length
 ·have hlb : ((A.length : Int) != (C.length : Int)) = false := by simp; omega
  obtain ⟨res, hres⟩ : ∃ res, decide (A = C) = res := ⟨_, rfl⟩
  rw [hres]
  have HR := Lib.hid hres
  have HL := Lib.hid hl
  clear hres
  refine fn_sp TT_ok Tryz.func34 (c := _) rfl (by simp [Tryz.ntmps34]) (fun B hI0 hro => ?_)
  rw [Tryz.ntmps34]
  simp only [enumA]
  refine amGo PT240_ok (h := ?_)
  refine s_loop (J := fun k : {k : Nat // k ≤ A.length ∧ Hid (A.take k = C.take k)} => ⟨32, [(2, .ptr 0 0 0), (3, .ptr 1 0 0), (4, .v (.bool false)), (5, .v (.int .i64 (k.1 : Int)))], [(0, ⟨24, 2, [[.v (.int .i64 N), aRows A]]⟩), (1, ⟨24, 2, [[.v (.int .i64 M), aRows C]]⟩)], [1, 0]⟩) (μ := fun k => A.length - k.1) ⟨0, Nat.zero_le _, Lib.hid rfl⟩ ?_ (fun ⟨k, hk, HK⟩ => ?_)
  ·(refine weak_id rfl ?_ ?_ <;> ((try simp only [List.mem_cons, List.not_mem_nil, or_false, forall_eq_or_imp, forall_eq]); (try simp (disch := omega) [i64w, *])))
  clear hlb hl
  try dsimp only at hk HK
  try dsimp only
  refine amStr (h := ?_)
  refine amReg PT240_ok (h := ?_)
  refine amStr (h := ?_)
  (focus ((with_reducible refine sp_cond (b := ?_) ?_ (fun hc => ?_) (fun hc => ?_)); rotate_left; (focus (first | rfl | (simp [lk, AS.ev]; rfl))); all_goals (try simp at hc)))
  ·have hkk : k < A.length := by omega
   clear hc
   have hkb : k < C.length := by have := HL.out; omega
   have hki : (k : Int) < (A.length : Int) := by omega
   have hkbi : (k : Int) < (C.length : Int) := by omega
   have hwk : IntKind.i64.wrap ((k : Int) + 1) = (k : Int) + 1 := i64s k (by omega)
   have hai := okRows_at hA k
   have hbi := okRows_at hB k
   have HS := Lib.hid (show A.getD k [] = C.getD k [] → A.take (k + 1) = C.take (k + 1) from fun e => by
    have e1 : A.getD k [] = A[k] := by simp [List.getD, hkk]
    have e2 : C.getD k [] = C[k] := by simp [List.getD, hkb]
    rw [List.take_succ_eq_append_getElem hkk, List.take_succ_eq_append_getElem hkb, HK.out, ← e1, ← e2, e])
   have HN := Lib.hid (show A.getD k [] ≠ C.getD k [] → A ≠ C from fun e h => e (by rw [h]))
   obtain ⟨a, ha⟩ : ∃ a, A.getD k [] = a := ⟨_, rfl⟩
   obtain ⟨b, hb⟩ : ∃ b, C.getD k [] = b := ⟨_, rfl⟩
   rw [ha] at HS HN hai
   rw [hb] at HS HN hbi
   by_cases h1 : a = b
   ·subst h1
    have HT := Lib.hid (HS.out rfl)
    refine amStr (h := ?_)
    refine amDrw PT240_ok (h := ?_)
    refine amStr (h := ?_)
    refine amReg PT240_ok (h := ?_)
    refine k_lp (⟨k + 1, hkk, HT⟩ : {k : Nat // k ≤ A.length ∧ Hid (A.take k = C.take k)}) (by dsimp only; omega) ?_
    (refine weak_id rfl ?_ ?_ <;> ((try simp only [List.mem_cons, List.not_mem_nil, or_false, forall_eq_or_imp, forall_eq]); (try simp (disch := omega) [i64w, *])))
   ·have hT : res = false := by rw [← HR.out]; exact decide_eq_false (HN.out h1)
    subst hT
    refine amStr (h := ?_)
    refine amDrw PT240_ok (h := ?_)
    refine amStr (h := ?_)
    refine amReg PT240_ok (h := ?_)
    refine amStr (h := ?_)
    (refine amRt Tryz.results34 (h := ?_); try simp [*])
  ·obtain rfl : k = A.length := by omega
   clear hc
   have hT : res = true := by
    have := HK.out
    rw [List.take_length, HL.out, List.take_length] at this
    rw [← HR.out]; exact decide_eq_true this
   subst hT
   refine amStr (h := ?_)
   refine amReg PT240_ok (h := ?_)
   refine amStr (h := ?_)
   (refine amRt Tryz.results34 (h := ?_); try simp [*])
 ·have hlb : ((A.length : Int) != (C.length : Int)) = true := by simp; omega
  have hT : decide (A = C) = false := decide_eq_false fun e => hl (by rw [e])
  rw [hT]
  clear hT hl
  refine fn_sp TT_ok Tryz.func34 (c := _) rfl (by simp [Tryz.ntmps34]) (fun B hI0 hro => ?_)
  rw [Tryz.ntmps34]
  simp only [enumA]
  refine amGo PT240_ok (h := ?_)
  (refine amRt Tryz.results34 (h := ?_); try simp [*])
theorem and_parts (s t : BitVec 128) : s &&& t = 0#128 ↔ (lo s &&& lo t).toNat = 0 ∧ (hi s &&& hi t).toNat = 0 := by
 have e1 : lo (s &&& t) = lo s &&& lo t := by apply BitVec.eq_of_getLsbD_eq; intro k hk; simp only [lo_bit, BitVec.getLsbD_and, hk, decide_true, Bool.true_and]
 have e2 : hi (s &&& t) = hi s &&& hi t := by apply BitVec.eq_of_getLsbD_eq; intro k hk; simp only [hi_bit, BitVec.getLsbD_and, hk, decide_true, Bool.true_and]
 rw [← e1, ← e2]
 constructor
 ·intro h; rw [h]; exact ⟨rfl, rfl⟩
 ·rintro ⟨h1, h2⟩
  exact words_ext (BitVec.eq_of_toNat_eq (by rw [h1]; rfl)) (BitVec.eq_of_toNat_eq (by rw [h2]; rfl))
theorem rmeet_p (N : Int) (A : List (List Int)) (M : Int) (C : List (List Int)) (hN : okI N = true) (hA : okRows A = true) (hM : okI M = true) (hB : okRows C = true) : FnPure Tryz.prog 102 [aTh N A, aTh M C] (.v (.bool (!decide (varsOf N A &&& varsOf M C = 0#128)))) := by
 obtain ⟨s, hs⟩ : ∃ s, varsOf N A = s := ⟨_, rfl⟩
 obtain ⟨t, ht⟩ : ∃ t, varsOf M C = t := ⟨_, rfl⟩
 have hsA : aSet (varsOf N A) = .agg [.v (.int .u64 ((lo s).toNat : Int)), .v (.int .u64 ((hi s).toNat : Int))] := by rw [hs]; rfl
 have htA : aSet (varsOf M C) = .agg [.v (.int .u64 ((lo t).toNat : Int)), .v (.int .u64 ((hi t).toNat : Int))] := by rw [ht]; rfl
 rw [hs, ht]
 have hp := and_parts s t
 have hw1 : (wAnd (lo s) (lo t)).toNat = (lo s &&& lo t).toNat := rfl
 have hw2 : (wAnd (hi s) (hi t)).toNat = (hi s &&& hi t).toNat := rfl
 obtain ⟨x, hx⟩ : ∃ x, (lo s &&& lo t).toNat = x := ⟨_, rfl⟩
 obtain ⟨y, hy⟩ : ∃ y, (hi s &&& hi t).toNat = y := ⟨_, rfl⟩
 rw [hx] at hw1 hp
 rw [hy] at hw2 hp
 have HP := Lib.hid hp
 clear hp hx hy hs ht
 unfold aTh
 by_cases h1 : x = 0
 ·subst h1
  by_cases h2 : y = 0
  ·subst h2
   rw [decide_eq_true (HP.out.2 ⟨rfl, rfl⟩)]
   refine fn_sp TT_ok Tryz.func102 (c := _) rfl (by simp [Tryz.ntmps102]) (fun B hI0 hro => ?_)
   rw [Tryz.ntmps102]
   simp only [enumA]
   refine amStr (h := ?_)
   refine amReg PT240_ok (h := ?_)
   refine amStr (h := ?_)
   refine amDrs PT240_ok (h := ?_)
   refine amGo PT240_ok (h := ?_)
   (refine amRt Tryz.results102 (h := ?_); try simp [*])
  ·have h2b : ((y : Int) != 0) = true := by simp; omega
   rw [decide_eq_false fun e => h2 (HP.out.1 e).2]
   clear h2
   refine fn_sp TT_ok Tryz.func102 (c := _) rfl (by simp [Tryz.ntmps102]) (fun B hI0 hro => ?_)
   rw [Tryz.ntmps102]
   simp only [enumA]
   refine amStr (h := ?_)
   refine amReg PT240_ok (h := ?_)
   refine amStr (h := ?_)
   refine amDrs PT240_ok (h := ?_)
   refine amGo PT240_ok (h := ?_)
   (refine amRt Tryz.results102 (h := ?_); try simp [*])
 ·have h1b : ((x : Int) != 0) = true := by simp; omega
  rw [decide_eq_false fun e => h1 (HP.out.1 e).1]
  clear h1
  refine fn_sp TT_ok Tryz.func102 (c := _) rfl (by simp [Tryz.ntmps102]) (fun B hI0 hro => ?_)
  rw [Tryz.ntmps102]
  simp only [enumA]
  refine amStr (h := ?_)
  refine amReg PT240_ok (h := ?_)
  refine amStr (h := ?_)
  refine amDrs PT240_ok (h := ?_)
  refine amGo PT240_ok (h := ?_)
  (refine amRt Tryz.results102 (h := ?_); try simp [*])
@[simp] def g_r23Has : List AV → Option (AV × Bool)
 | [.agg [.v (.int .i64 N), a0], .v (.int .i64 l)] => (match toRows a0 with | some R => if (okI N && okRows R && okI l) = true then some (.v (.bool (decide ([l] ∈ R))), false) else none | none => none)
 | _ => none
theorem e_r23Has : EntOk Tryz.prog 63 g_r23Has := ent_pure (by kernel_rfl) fun args r fr h => by
 unfold g_r23Has at h
 split at h
 ·rename_i N a0 l
  split at h
  ·rename_i R t0
   split at h
   ·rename_i hc
    simp only [Bool.and_eq_true] at hc
    obtain ⟨⟨m0, o0⟩, o1⟩ := hc
    cases h
    exact ⟨FnPure.cov (rhas_p N R l o0 o1) (.cons (cov_th _ (cov_rows t0)) (.cons (Cov.refl _) .nil)), rfl⟩
   ·cases h
  ·cases h
 ·cases h

@[simp] def g_r23Emp : List AV → Option (AV × Bool)
 | [.agg [.v (.int .i64 N), a0]] => (match toRows a0 with | some R => if (okI N && okRows R) = true then some (.v (.bool (decide ([] ∈ R))), false) else none | none => none)
 | _ => none
theorem e_r23Emp : EntOk Tryz.prog 103 g_r23Emp := ent_pure (by kernel_rfl) fun args r fr h => by
 unfold g_r23Emp at h
 split at h
 ·rename_i N a0
  split at h
  ·rename_i R t0
   split at h
   ·rename_i hc
    simp only [Bool.and_eq_true] at hc
    obtain ⟨m0, o0⟩ := hc
    cases h
    exact ⟨FnPure.cov (rempty_p N R o0) (.cons (cov_th _ (cov_rows t0)) .nil), rfl⟩
   ·cases h
  ·cases h
 ·cases h

@[simp] def g_r23Giv : List AV → Option (AV × Bool)
 | [.agg [.v (.int .i64 N), a0], .v (.int .i64 l)] => (match toRows a0 with | some R => if (okI N && okRows R && okI l && (decide (checkT N R = 0) && litOk l N)) = true then some (aTh N (gvV R l), false) else none | none => none)
 | _ => none
theorem e_r23Giv : EntOk Tryz.prog 101 g_r23Giv := ent_pure (by kernel_rfl) fun args r fr h => by
 unfold g_r23Giv at h
 split at h
 ·rename_i N a0 l
  split at h
  ·rename_i R t0
   split at h
   ·rename_i hc
    simp only [Bool.and_eq_true] at hc
    obtain ⟨⟨⟨m0, o0⟩, o1⟩, hk⟩ := hc
    cases h
    exact ⟨FnPure.cov (rgiven23_p N R l m0 o0 o1 (of_decide_eq_true hk.1) hk.2) (.cons (cov_th _ (cov_rows t0)) (.cons (Cov.refl _) .nil)), rfl⟩
   ·cases h
  ·cases h
 ·cases h

@[simp] def g_r23Sam : List AV → Option (AV × Bool)
 | [.agg [.v (.int .i64 N), a0], .agg [.v (.int .i64 M), a1]] => (match toRows a0 with | some A => (match toRows a1 with | some B => if (okI N && okRows A && okI M && okRows B) = true then some (.v (.bool (decide (A = B))), false) else none | none => none) | none => none)
 | _ => none
theorem e_r23Sam : EntOk Tryz.prog 34 g_r23Sam := ent_pure (by kernel_rfl) fun args r fr h => by
 unfold g_r23Sam at h
 split at h
 ·rename_i N a0 M a1
  split at h
  ·rename_i A t0
   split at h
   ·rename_i B t1
    split at h
    ·rename_i hc
     simp only [Bool.and_eq_true] at hc
     obtain ⟨⟨⟨m0, o0⟩, m1⟩, o1⟩ := hc
     cases h
     exact ⟨FnPure.cov (rsame23_p N A M B o0 o1) (.cons (cov_th _ (cov_rows t0)) (.cons (cov_th _ (cov_rows t1)) .nil)), rfl⟩
    ·cases h
   ·cases h
  ·cases h
 ·cases h

@[simp] def g_r23Mee : List AV → Option (AV × Bool)
 | [.agg [.v (.int .i64 N), a0], .agg [.v (.int .i64 M), a1]] => (match toRows a0 with | some A => (match toRows a1 with | some B => if (okI N && okRows A && okI M && okRows B) = true then some (.v (.bool (!decide (varsOf N A &&& varsOf M B = 0#128))), false) else none | none => none) | none => none)
 | _ => none
theorem e_r23Mee : EntOk Tryz.prog 102 g_r23Mee := ent_pure (by kernel_rfl) fun args r fr h => by
 unfold g_r23Mee at h
 split at h
 ·rename_i N a0 M a1
  split at h
  ·rename_i A t0
   split at h
   ·rename_i B t1
    split at h
    ·rename_i hc
     simp only [Bool.and_eq_true] at hc
     obtain ⟨⟨⟨m0, o0⟩, m1⟩, o1⟩ := hc
     cases h
     exact ⟨FnPure.cov (rmeet_p N A M B m0 o0 m1 o1) (.cons (cov_th _ (cov_rows t0)) (.cons (cov_th _ (cov_rows t1)) .nil)), rfl⟩
    ·cases h
   ·cases h
  ·cases h
 ·cases h

def l241 : List (FuncId × (List AV → Option (AV × Bool))) :=
 (63, g_r23Has) :: (103, g_r23Emp) :: (101, g_r23Giv) :: (34, g_r23Sam) :: (102, g_r23Mee) :: l240
theorem l241_ok : ∀ p ∈ l241, EntOk Tryz.prog p.1 p.2 := ent_cons e_r23Has (ent_cons e_r23Emp (ent_cons e_r23Giv (ent_cons e_r23Sam (ent_cons e_r23Mee (l240_ok)))))
def PT241 : PTab := tab l241
theorem PT241_ok : PTok Tryz.prog PT241 := tab_ok l241_ok
@[simp] theorem PT241_r23Has : PT241 63 = g_r23Has := rfl
@[simp] theorem PT241_r23Emp : PT241 103 = g_r23Emp := rfl
@[simp] theorem PT241_r23Giv : PT241 101 = g_r23Giv := rfl
@[simp] theorem PT241_r23Sam : PT241 34 = g_r23Sam := rfl
@[simp] theorem PT241_r23Mee : PT241 102 = g_r23Mee := rfl
@[simp] theorem PT241_old (f : FuncId) (h : decide (f ≠ 63 ∧ f ≠ 103 ∧ f ≠ 101 ∧ f ≠ 34 ∧ f ≠ 102) = true) : PT241 f = PT240 f := (fun h => Eq.trans (tab_old h.1) (Eq.trans (tab_old h.2.1) (Eq.trans (tab_old h.2.2.1) (Eq.trans (tab_old h.2.2.2.1) (tab_old h.2.2.2.2))))) (of_decide_eq_true h)
end Go.Proofs.YtllkogdgmmcfgaaGreatDoor
