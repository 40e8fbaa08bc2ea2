/- (censusref23.Proof).fit, walked; no condition. -/
import Derived.Test.YtllkogdgmmcfgaaGreatDoorRj23
import Derived.Test.YtllkogdgmmcfgaaGreatDoorWl
namespace Go.Proofs.YtllkogdgmmcfgaaGreatDoor
set_option linter.unusedVariables false
set_option linter.unusedSimpArgs false
set_option linter.unusedSectionVars false
open Go.RowKit
open Wlk
attribute [-simp] List.getD_eq_getElem?_getD
set_option maxRecDepth 100000
structure FitP (ns : List Nd) (R : List (List Int)) (is : List Int) (R0 : List (List Int)) (us0 : List Bool) (k : Nat) (R1 : List (List Int)) (us : List Bool) (b : Bool) : Prop where
 hk : k ≤ is.length
 hu : us.length = is.length
 run : Run ns R is R1 (unus is us)
 no : b = false → R1 = R0 ∧ us = us0 ∧ ∀ j, j < k → us0.getD j false = false → useB ns R0 (is.getD j 0) = false
 less : b = true → (unus is us).length < (unus is us0).length
structure FitO (ns : List Nd) (R : List (List Int)) (is : List Int) (R1 : List (List Int)) (us : List Bool) (b : Bool) : Prop where
 hu : us.length = is.length
 run : Run ns R is R1 (unus is us)
 no : b = false → ∀ i ∈ unus is us, useB ns R1 i = false
theorem FitP.start {ns : List Nd} {R : List (List Int)} {is : List Int} {R1 : List (List Int)} {us : List Bool} {b : Bool} (h : FitO ns R is R1 us b) : FitP ns R is R1 us 0 R1 us false := ⟨Nat.zero_le _, h.hu, h.run, fun _ => ⟨rfl, rfl, fun j hj => by omega⟩, fun e => (by cases e)⟩
theorem FitP.skip {ns : List Nd} {R : List (List Int)} {is : List Int} {R0 : List (List Int)} {us0 : List Bool} {k : Nat} {R1 : List (List Int)} {us : List Bool} {b : Bool} (h : FitP ns R is R0 us0 k R1 us b) (hk : k < is.length) (hn : us.getD k false = false → useB ns R1 (is.getD k 0) = false) : FitP ns R is R0 us0 (k + 1) R1 us b := by
 refine ⟨hk, h.hu, h.run, fun e => ?_, h.less⟩
 obtain ⟨h1, h2, h3⟩ := h.no e
 refine ⟨h1, h2, fun j hj hj2 => ?_⟩
 by_cases e2 : j < k
 ·exact h3 j e2 hj2
 ·obtain rfl : j = k := by omega
  rw [← h1]
  exact hn (by rw [h2]; exact hj2)
theorem FitP.use {ns : List Nd} {R : List (List Int)} {is : List Int} {R0 : List (List Int)} {us0 : List Bool} {k : Nat} {R1 : List (List Int)} {us : List Bool} {b : Bool} (h : FitP ns R is R0 us0 k R1 us b) (hk : k < is.length) (hn : us.getD k false = false) (hu : useB ns R1 (is.getD k 0) = true) : FitP ns R is R0 us0 (k + 1) (gvV R1 (litN ns (is.getD k 0))) (us.set k true) true := by
 have hp := unus_set hk h.hu hn
 refine ⟨hk, by rw [List.length_set]; exact h.hu, h.run.snoc hp hu, fun e => (by cases e), fun _ => ?_⟩
 have h1 := hp.length_eq
 simp only [List.length_cons] at h1
 cases b with
 | false =>
  have h2 := (h.no rfl).2.1
  rw [← h2]; omega
 | true =>
  have := h.less rfl
  omega
theorem FitP.fin {ns : List Nd} {R : List (List Int)} {is : List Int} {R0 : List (List Int)} {us0 : List Bool} {R1 : List (List Int)} {us : List Bool} {b : Bool} (h : FitP ns R is R0 us0 is.length R1 us b) : FitO ns R is R1 us b := by
 refine ⟨h.hu, h.run, fun e i hi => ?_⟩
 obtain ⟨h1, h2, h3⟩ := h.no e
 unfold unus at hi
 obtain ⟨j, hj, rfl⟩ := List.mem_map.1 hi
 obtain ⟨hj1, hj2⟩ := List.mem_filter.1 hj
 rw [h1]
 exact h3 j (List.mem_range.1 hj1) (by rw [← h2]; simpa using hj2)
theorem cls_rows {N : Int} {a : List (List Int)} (hN : N ≤ 128) (h : ClsOk N a) (hl : a.length ≤ 5000000) : okRows a = true := by
 unfold okRows
 rw [Bool.and_eq_true, decide_eq_true_eq]
 refine ⟨List.all_eq_true.2 fun c hc => ?_, by omega⟩
 unfold okInts
 rw [Bool.and_eq_true, decide_eq_true_eq, List.all_eq_true]
 obtain ⟨g1, g2⟩ := h c hc
 exact ⟨fun l hl => by have := litOk_range (g2 l hl); exact okI_iff.2 ⟨by omega, by omega⟩, by omega⟩
theorem addJ_cls {N : Int} {all x : List (List Int)} (h1 : ClsOk N all) (h2 : ClsOk N x) (j : Nat) : ClsOk N (addJ all x j) := fun c hc => by
 unfold addJ at hc
 rcases List.mem_append.1 hc with hc | hc
 ·exact h1 c hc
 ·split at hc
  ·exact h2 c (List.mem_of_mem_drop (List.mem_of_mem_take hc))
  ·exact h2 c (List.mem_of_mem_take hc)
theorem addJ_len (all x : List (List Int)) (j : Nat) : (addJ all x j).length ≤ all.length + x.length := by
 unfold addJ
 split <;> simp <;> omega
theorem bren (ρ : Nat → Nat) (A : List Bool) : (A.map fun b => [AV.v (.bool b)]) = renLL ρ (A.map fun b => [AV.v (.bool b)]) := by
 induction A with
 | nil => rfl
 | cons b A ih => simp [renLL, renL, AV.ren, ← ih]
def fitM (is : List Int) (us : List Bool) (b : Bool) : Nat := 2 * (unus is us).length + (if b then 1 else 0)
set_option maxHeartbeats 16000000 in
theorem rfit_p (N : Int) (L : List (List Int)) (ns : List Nd) (cl : List Cl) (R : List (List Int)) (is : List Int) (hp : Prf N L ns cl) (hR : okRows R = true) (hz : checkT N R = 0) (his : okInts is = true) (hil : is.length ≤ 400) (hix : idxB ns is = true) : FnPure Tryz.prog 64 [aPrg N L ns cl, aTh N R, aInts is] (.v (.bool (fitV N L ns cl R is))) := by
 have hN := hp.hN
 have hNl := okNs_len hp.hns
 have hpB := prfB_of hp
 have HANY := Lib.hid (fun (R2 : List (List Int)) (us : List Bool) (h : FitO ns R is R2 us false) => fit_any (L := L) (cl := cl) hz h.run (unus_sub is us) (h.no rfl))
 have HE := Lib.hid (fun (R2 : List (List Int)) (B2 : List Int) => refF_eq (ns := ns) (cl := cl) hp.hz R2 B2 0#128 [] (fun c hc => by cases hc) rfl)
 obtain ⟨res, hres⟩ : ∃ res, fitV N L ns cl R is = res := ⟨_, rfl⟩
 rw [hres]
 have HRES := Lib.hid hres
 clear hres
 have hnl2 : (is.length : Int) ≤ 281474976710656 := by omega
 have hnl3 : (is.length : Int) ≤ 9223372036854775807 := by omega
 unfold aPrg aTh aNds aCls
 refine fn_sp TT_ok Tryz.func64 (c := _) rfl (by simp [Tryz.ntmps64]) (fun B hI0 hro => ?_)
 rw [Tryz.ntmps64]
 simp only [enumA]
 refine amStr (h := ?_)
 refine amReg PT242_ok (h := ?_)
 refine amStr (h := ?_)
 refine amReg PT242_ok (h := ?_)
 refine amStr (h := ?_)
 obtain ⟨U0, hU0⟩ : ∃ U : List Bool, List.replicate is.length false = U := ⟨_, rfl⟩
 have hrep : List.replicate is.length [AV.v (.bool false)] = U0.map fun b => [AV.v (.bool b)] := by rw [← hU0, List.map_replicate]
 have hst : FitO ns R is R U0 true := ⟨by rw [← hU0, List.length_replicate], .done (by rw [← hU0, unus_start]), fun e => (by cases e)⟩
 clear hU0
 refine amReg PT242_ok (h := ?_)
 refine amStr (h := ?_)
 refine s_loop (J := fun x : {x : List (List Int) × List Bool × Bool // Hid (FitO ns R is x.1 x.2.1 x.2.2)} => ⟨144, [(2, aInts is), (3, .ptr 0 0 0), (4, .ptr 1 0 0), (6, .v (.bool false)), (7, .ref 4 0 is.length), (8, .v (.bool x.1.2.2))], [(0, ⟨68, 5, [[.v (.int .i64 N), aRows L, .v (.int .i64 N), aNds ns, aCls cl]]⟩), (1, ⟨24, 2, [[.v (.int .i64 N), aRows x.1.1]]⟩), (4, ⟨4, 1, x.1.2.1.map fun b => [.v (.bool b)]⟩)], [4, 1, 0]⟩) (μ := fun x => fitM is x.1.2.1 x.1.2.2) ⟨(R, U0, true), Lib.hid hst⟩ ?_ (fun ⟨⟨R1, us, b⟩, HO⟩ => ?_)
 ·(refine weak_id rfl ?_ ?_ <;> ((try simp only [List.mem_cons, List.not_mem_nil, or_false, forall_eq_or_imp, forall_eq]); (try simp (disch := omega) [i64w, *])))
  all_goals ((repeat' refine And.intro ?_ ?_) <;> first | rfl | exact fun q h => (by rw [bids] at h; cases h) | exact fun q h => (by rw [show ((vs.map fun b => [AV.v (.bool b)]).set k [AV.v (.bool true)]) = (vs.set k true).map (fun b => [AV.v (.bool b)]) from (List.map_set ..).symm, bids] at h; cases h) | trace_state)
 clear hrep hst hnl2 hnl3
 try dsimp only at HO
 try dsimp only
 have hul := HO.out.hu
 have hz1 := run_check HO.out.run hz
 have hR1 := okRows_check hz1
 refine amStr (h := ?_)
 refine amReg PT242_ok (h := ?_)
 refine amStr (h := ?_)
 cases b
 ·have hf := HANY.out R1 us HO.out
  rw [HE.out, HRES.out] at hf
  obtain ⟨ro, hro2⟩ : ∃ o, refF N L ns cl (unus is us) [] = o := ⟨_, rfl⟩
  rw [hro2] at hf
  have HF := Lib.hid hf
  have hro3 : Hid (refF N L ns cl (unusK is us 0) [] = ro) := Lib.hid (by rw [unusK_zero]; exact hro2)
  clear hf hro2 HANY HE HRES
  refine amStr (h := ?_)
  refine amReg PT242_ok (h := ?_)
  refine amStr (h := ?_)
  refine s_weak (τ := ⟨144, [(2, aInts is), (3, .ptr 0 0 0), (4, .ptr 1 0 0), (6, .v (.bool false)), (7, .ref 4 0 is.length), (11, .ptr 9 0 0)], [(0, ⟨68, 5, [[.v (.int .i64 N), aRows L, .v (.int .i64 N), aNds ns, aCls cl]]⟩), (1, ⟨24, 2, [[.v (.int .i64 N), aRows R1]]⟩), (4, ⟨4, 1, us.map fun b => [.v (.bool b)]⟩), (9, ⟨24, 2, [[.v (.int .i64 N), .v (.slice none 0 0)]]⟩)], [9, 4, 1, 0]⟩) ?_ ?_
  ·(refine weak_id rfl ?_ ?_ <;> ((try simp only [List.mem_cons, List.not_mem_nil, or_false, forall_eq_or_imp, forall_eq]); (try simp (disch := omega) [i64w, *])))
   all_goals ((repeat' refine And.intro ?_ ?_) <;> first | rfl | exact fun q h => (by rw [bids] at h; cases h) | trace_state)
  refine s_cnil 9 0 1 70 30 1 rfl rfl (by simp) ?_ (by decide)
  (refine s_eq (τ := ?_) ?_ ?_; rotate_left; (focus ((try simp only [AS.frz, List.map_cons, List.map_nil]); (try simp [frzV, frzO, frzC, List.filter]); rfl)))
  refine amReg PT242_ok (h := ?_)
  refine amStr (h := ?_)
  refine s_loop (J := fun x : {x : Nat × List (List Int) // x.1 ≤ is.length ∧ ClsOk N x.2 ∧ x.2.length ≤ x.1 * 4096 ∧ Hid (refF N L ns cl (unusK is us x.1) x.2 = ro)} => ⟨144, [(2, aInts is), (3, .ptr 0 0 0), (4, .ptr 1 0 0), (6, .v (.bool false)), (7, .ref 4 0 is.length), (11, .ptr 9 0 0), (12, .v (.int .i64 (x.1.1 : Int)))], [(70, ⟨30, 1, x.1.2.map fun xs => [aInts xs]⟩), (9, ⟨24, 2, [[.v (.int .i64 N), .ref 70 0 x.1.2.length]]⟩), (0, ⟨68, 5, [[.v (.int .i64 N), aRows L, .v (.int .i64 N), aNds ns, aCls cl]]⟩), (1, ⟨24, 2, [[.v (.int .i64 N), aRows R1]]⟩), (4, ⟨4, 1, us.map fun b => [.v (.bool b)]⟩)], [70, 9, 4, 1, 0]⟩) (μ := fun x => is.length - x.1.1) ⟨(0, []), Nat.zero_le _, fun c hc => (by cases hc), by simp, hro3⟩ ?_ (fun ⟨⟨k, all⟩, hk, hcl, hall, HRO⟩ => ?_)
  ·(refine weak_id rfl ?_ ?_ <;> ((try simp only [List.mem_cons, List.not_mem_nil, or_false, forall_eq_or_imp, forall_eq]); (try simp (disch := omega) [i64w, *])))
   all_goals ((repeat' refine And.intro ?_ ?_) <;> first | rfl | exact fun q h => (by rw [bids] at h; cases h) | trace_state)
  try dsimp only at hk hcl hall HRO
  try dsimp only
  have haR : okRows all = true := cls_rows (checkT_ok hp.hz).2.1 hcl (by omega)
  have hal := okRows_len haR
  clear hro3
  unfold aNds aCls
  refine amStr (h := ?_)
  refine amReg PT242_ok (h := ?_)
  refine amStr (h := ?_)
  (focus ((with_reducible refine sp_cond (b := ?_) ?_ (fun hc => ?_) (fun hc => ?_)); rotate_left; (focus (first | rfl | (simp [lk, AS.ev]; rfl))); all_goals (try simp at hc)))
  ·have hkk : k < is.length := by omega
   clear hc
   have hki : (k : Int) < (is.length : Int) := by omega
   have hwk : IntKind.i64.wrap ((k : Int) + 1) = (k : Int) + 1 := i64s k (by omega)
   obtain ⟨hq0, hq1⟩ := idxB_at hix hkk
   obtain ⟨q, hq⟩ : ∃ q : Nat, is.getD k 0 = (q : Int) := ⟨(is.getD k 0).toNat, by omega⟩
   rw [hq] at hq0 hq1
   have hqn : q < ns.length := by omega
   have hqo : okI (q : Int) = true := okI_iff.2 ⟨by omega, by omega⟩
   have hgq := nds_get hqn
   have hku : k < us.length := by omega
   have hgv := bget hku
   have hstep := unusK_step (us := us) hkk
   rw [hq] at hstep
   have hrf : ∀ r, refF N L ns cl ((q : Int) :: r) all = (match rsV L N (clN cl (q : Int)) with
    | none => none
    | some x => if kindN ns (q : Int) = 2 then none else if meetB N all x = true then none else refF N L ns cl r (addR all x)) := fun r => rfl
   have hkn : kindN ns (q : Int) = (ns.getD q nd0).1 := rfl
   rw [hkn] at hrf
   obtain ⟨K, hK⟩ : ∃ K, (ns.getD q nd0).1 = K := ⟨_, rfl⟩
   obtain ⟨l, hl⟩ : ∃ l, (ns.getD q nd0).2.1 = l := ⟨_, rfl⟩
   obtain ⟨ix, hix2⟩ : ∃ ix, (ns.getD q nd0).2.2 = ix := ⟨_, rfl⟩
   rw [hK, hl, hix2] at hgq
   rw [hK] at hrf
   obtain ⟨d, hd⟩ : ∃ d, us.getD k false = d := ⟨_, rfl⟩
   rw [hd] at hgv hstep
   have HST := Lib.hid hstep
   have HRF := Lib.hid hrf
   clear hK hl hix2 hd hstep hrf hkn
   cases d
   ·have hst := HST.out
    rw [if_neg (by decide)] at hst
    have hro4 := HRO.out
    rw [hst, HRF.out] at hro4
    have HR4 := Lib.hid hro4
    clear hst hro4
    have HRS := Lib.hid (fun x (h : rsV L N (clN cl (q : Int)) = some x) => rs_norm hp.hz h)
    cases hx : rsV L N (clN cl (q : Int)) with
    | none =>
     have hA : resP N (none : Option (List (List Int))) = .tup [.agg [.v (.int .i64 0), .v (.slice none 0 0)], .v (.bool false)] := rfl
     have hro5 := HR4.out
     rw [hx] at hro5
     have hT : res = false := by rw [HF.out, ← hro5]; rfl
     subst hT
     clear hro5
     refine amStr (h := ?_)
     refine amReg PT242_ok (h := ?_)
     refine amStr (h := ?_)
     refine amDrs PT242_ok (h := ?_)
     refine amStr (h := ?_)
     refine amDrw PT242_ok (h := ?_)
     refine amStr (h := ?_)
     refine amReg PT242_ok (h := ?_)
     refine amStr (h := ?_)
     (refine amRt Tryz.results64 (h := ?_); try simp [*])
    | some x =>
     have hA : resP N (some x) = .tup [.agg [.v (.int .i64 N), aRows x], .v (.bool true)] := rfl
     obtain ⟨hzx, hnx⟩ := HRS.out x hx
     have HNX := Lib.hid hnx
     clear hnx
     have hxR := okRows_check hzx
     have hx4 := (checkT_ok hzx).2.2.1
     have hxc : ClsOk N x := (checkT_ok hzx).2.2.2
     have hro5 := HR4.out
     rw [hx] at hro5
     simp only at hro5
     by_cases h2 : K = 2
     ·subst h2
      rw [if_pos rfl] at hro5
      have hT : res = false := by rw [HF.out, ← hro5]; rfl
      subst hT
      clear hro5
      refine amStr (h := ?_)
      refine amReg PT242_ok (h := ?_)
      refine amStr (h := ?_)
      refine amDrs PT242_ok (h := ?_)
      refine amStr (h := ?_)
      refine amDrw PT242_ok (h := ?_)
      refine amStr (h := ?_)
      refine amReg PT242_ok (h := ?_)
      refine amStr (h := ?_)
      (refine amRt Tryz.results64 (h := ?_); try simp [*])
     ·have h2b : (K == 2) = false := by simpa using h2
      rw [if_neg h2] at hro5
      have hmb : meetB N all x = (!decide (varsOf N all &&& varsOf N x = 0#128)) := rfl
      obtain ⟨mb, hmb2⟩ : ∃ b, meetB N all x = b := ⟨_, rfl⟩
      rw [hmb2] at hro5 hmb
      have hmb3 := hmb.symm
      cases mb
      ·rw [if_neg (by decide)] at hro5
       have HR5 := Lib.hid hro5
       clear hro5 hmb hmb2 h2
       refine amStr (h := ?_)
       refine amReg PT242_ok (h := ?_)
       refine amStr (h := ?_)
       refine amDrs PT242_ok (h := ?_)
       refine amStr (h := ?_)
       refine amDrw PT242_ok (h := ?_)
       refine amStr (h := ?_)
       refine amReg PT242_ok (h := ?_)
       refine amStr (h := ?_)
       refine s_loop (J := fun y : {y : Nat × List (List Int) // y.1 ≤ x.length ∧ Hid (addJ all x y.1 = y.2)} => ⟨144, [(2, aInts is), (3, .ptr 0 0 0), (4, .ptr 1 0 0), (6, .v (.bool false)), (7, .ref 4 0 is.length), (11, .ptr 9 0 0), (12, .v (.int .i64 (k : Int))), (13, .ptr 80 0 0), (15, .v (.int .i64 (y.1.1 : Int)))], [(70, ⟨30, 1, y.1.2.map fun xs => [aInts xs]⟩), (9, ⟨24, 2, [[.v (.int .i64 N), .ref 70 0 y.1.2.length]]⟩), (80, ⟨24, 2, [[.v (.int .i64 N), aRows x]]⟩), (0, ⟨68, 5, [[.v (.int .i64 N), aRows L, .v (.int .i64 N), aNds ns, aCls cl]]⟩), (1, ⟨24, 2, [[.v (.int .i64 N), aRows R1]]⟩), (4, ⟨4, 1, us.map fun b => [.v (.bool b)]⟩)], [80, 70, 9, 4, 1, 0]⟩) (μ := fun y => x.length - y.1.1) ⟨(0, all), Nat.zero_le _, Lib.hid (addJ_zero all x)⟩ ?_ (fun ⟨⟨j, a2⟩, hj, HA⟩ => ?_)
       ·(refine weak_id rfl ?_ ?_ <;> ((try simp only [List.mem_cons, List.not_mem_nil, or_false, forall_eq_or_imp, forall_eq]); (try simp (disch := omega) [i64w, *])))
        all_goals ((repeat' refine And.intro ?_ ?_) <;> first | rfl | exact fun q h => (by rw [bids] at h; cases h) | trace_state)
       try dsimp only at hj HA
       try dsimp only
       have hcl2 : ClsOk N a2 := by rw [← HA.out]; exact addJ_cls hcl hxc j
       have ha2l : a2.length ≤ all.length + x.length := by rw [← HA.out]; exact addJ_len all x j
       have ha2R : okRows a2 = true := cls_rows (checkT_ok hp.hz).2.1 hcl2 (by omega)
       have ha2m := okRows_len ha2R
       have ha2s : (a2.length + 1) * 24 ≤ 140737488355328 := by omega
       unfold aNds aCls
       refine amStr (h := ?_)
       refine amReg PT242_ok (h := ?_)
       refine amStr (h := ?_)
       (focus ((with_reducible refine sp_cond (b := ?_) ?_ (fun hc => ?_) (fun hc => ?_)); rotate_left; (focus (first | rfl | (simp [lk, AS.ev]; rfl))); all_goals (try simp at hc)))
       ·have hj2 : j < x.length := by omega
        clear hc
        have hji : (j : Int) < (x.length : Int) := by omega
        have hwj : IntKind.i64.wrap ((j : Int) + 1) = (j : Int) + 1 := i64s j (by omega)
        have hci := okInts_len (okRows_at hxR j)
        obtain ⟨c, hcc⟩ : ∃ c, x.getD j [] = c := ⟨_, rfl⟩
        rw [hcc] at hci
        have HE0 := Lib.hid (List.eq_nil_of_length_eq_zero (l := c))
        by_cases hc0 : c.length = 0
        ·cases hb : decide ([] ∈ a2)
         ·have HT := Lib.hid ((addJ_yes HNX.out hj2 (.inr (by rw [HA.out]; exact of_decide_eq_false hb))).trans (by rw [HA.out, hcc]))
          clear HE0
          refine amStr (h := ?_)
          refine amReg PT242_ok (h := ?_)
          refine amStr (h := ?_)
          refine amDrw PT242_ok (h := ?_)
          refine amStr (h := ?_)
          refine amReg PT242_ok (h := ?_)
          refine k_lp (⟨(j + 1, a2 ++ [c]), hj2, HT⟩ : {y : Nat × List (List Int) // y.1 ≤ x.length ∧ Hid (addJ all x y.1 = y.2)}) (by dsimp only; omega) ?_
          (refine weak_of (fun q => if q = 70 then 89 else q) ⟨rfl, ?_, ?_, ?_⟩ <;> ((try simp only [List.mem_cons, List.not_mem_nil, or_false, forall_eq_or_imp, forall_eq]); (try simp (disch := omega) [lk, AV.ids, idsL, idsLL, AV.ren, renL, renLL, i64w, *])))
          all_goals ((repeat' refine And.intro ?_ ?_) <;> first | rfl | exact bren _ _ | exact fun q h => (by rw [bids] at h; cases h) | trace_state)
         ·have HT := Lib.hid ((addJ_no HNX.out hj2 (hcc.trans (HE0.out hc0)) (by rw [HA.out]; exact of_decide_eq_true hb)).trans HA.out)
          clear HE0
          refine amStr (h := ?_)
          refine amReg PT242_ok (h := ?_)
          refine amStr (h := ?_)
          refine amReg PT242_ok (h := ?_)
          refine k_lp (⟨(j + 1, a2), hj2, HT⟩ : {y : Nat × List (List Int) // y.1 ≤ x.length ∧ Hid (addJ all x y.1 = y.2)}) (by dsimp only; omega) ?_
          (refine weak_id rfl ?_ ?_ <;> ((try simp only [List.mem_cons, List.not_mem_nil, or_false, forall_eq_or_imp, forall_eq]); (try simp (disch := omega) [i64w, *])))
          all_goals ((repeat' refine And.intro ?_ ?_) <;> first | rfl | exact bren _ _ | exact fun q h => (by rw [bids] at h; cases h) | trace_state)
        ·have hcp : 0 < c.length := by omega
         have hcpi : (0 : Int) < (c.length : Int) := by omega
         have HT := Lib.hid ((addJ_yes HNX.out hj2 (.inl (by rw [hcc]; exact fun e => hc0 (by rw [e]; rfl)))).trans (by rw [HA.out, hcc]))
         clear HE0
         refine amStr (h := ?_)
         refine amReg PT242_ok (h := ?_)
         refine amStr (h := ?_)
         refine amDrw PT242_ok (h := ?_)
         refine amStr (h := ?_)
         refine amReg PT242_ok (h := ?_)
         refine k_lp (⟨(j + 1, a2 ++ [c]), hj2, HT⟩ : {y : Nat × List (List Int) // y.1 ≤ x.length ∧ Hid (addJ all x y.1 = y.2)}) (by dsimp only; omega) ?_
         (refine weak_of (fun q => if q = 70 then 89 else q) ⟨rfl, ?_, ?_, ?_⟩ <;> ((try simp only [List.mem_cons, List.not_mem_nil, or_false, forall_eq_or_imp, forall_eq]); (try simp (disch := omega) [lk, AV.ids, idsL, idsLL, AV.ren, renL, renLL, i64w, *])))
         all_goals ((repeat' refine And.intro ?_ ?_) <;> first | rfl | exact bren _ _ | exact fun q h => (by rw [bids] at h; cases h) | trace_state)
       ·obtain rfl : j = x.length := by omega
        clear hc
        have HA2 := HA.out
        rw [addJ_end] at HA2
        subst HA2
        refine amStr (h := ?_)
        refine amReg PT242_ok (h := ?_)
        refine k_lp (⟨(k + 1, addR all x), hkk, hcl2, by dsimp only; omega, HR5⟩ : {x : Nat × List (List Int) // x.1 ≤ is.length ∧ ClsOk N x.2 ∧ x.2.length ≤ x.1 * 4096 ∧ Hid (refF N L ns cl (unusK is us x.1) x.2 = ro)}) (by dsimp only; omega) ?_
        (refine weak_id rfl ?_ ?_ <;> ((try simp only [List.mem_cons, List.not_mem_nil, or_false, forall_eq_or_imp, forall_eq]); (try simp (disch := omega) [i64w, *])))
        all_goals ((repeat' refine And.intro ?_ ?_) <;> first | rfl | exact bren _ _ | exact fun q h => (by rw [bids] at h; cases h) | trace_state)
      ·rw [if_pos rfl] at hro5
       have hT : res = false := by rw [HF.out, ← hro5]; rfl
       subst hT
       clear hro5 hmb hmb2 h2
       refine amStr (h := ?_)
       refine amReg PT242_ok (h := ?_)
       refine amStr (h := ?_)
       refine amDrs PT242_ok (h := ?_)
       refine amStr (h := ?_)
       refine amDrw PT242_ok (h := ?_)
       refine amStr (h := ?_)
       refine amReg PT242_ok (h := ?_)
       refine amStr (h := ?_)
       (refine amRt Tryz.results64 (h := ?_); try simp [*])
   ·have hst := HST.out
    rw [if_pos rfl] at hst
    have HR3 : Hid (refF N L ns cl (unusK is us (k + 1)) all = ro) := Lib.hid (by rw [← hst]; exact HRO.out)
    clear hst
    refine amStr (h := ?_)
    refine amReg PT242_ok (h := ?_)
    refine amStr (h := ?_)
    refine amReg PT242_ok (h := ?_)
    refine k_lp (⟨(k + 1, all), hkk, hcl, by dsimp only; omega, HR3⟩ : {x : Nat × List (List Int) // x.1 ≤ is.length ∧ ClsOk N x.2 ∧ x.2.length ≤ x.1 * 4096 ∧ Hid (refF N L ns cl (unusK is us x.1) x.2 = ro)}) (by dsimp only; omega) ?_
    (refine weak_id rfl ?_ ?_ <;> ((try simp only [List.mem_cons, List.not_mem_nil, or_false, forall_eq_or_imp, forall_eq]); (try simp (disch := omega) [i64w, *])))
    all_goals ((repeat' refine And.intro ?_ ?_) <;> first | rfl | exact fun q h => (by rw [bids] at h; cases h) | trace_state)
  ·obtain rfl : k = is.length := by omega
   clear hc
   have hro4 := HRO.out
   rw [unusK_end] at hro4
   have hro5 : ro = some all := hro4.symm
   have hres := HF.out
   rw [hro5] at hres
   unfold endV at hres
   simp only at hres
   have HRS := Lib.hid hres
   clear hro4 hro5 hres
   by_cases hza : checkT N all = 0
   ·have hnA : rNormA N all = .tup [.agg [.v (.int .i64 N), aRows (normL all)], .v (.int .i64 0)] := by unfold rNormA; rw [if_pos hza, normL_rNorm hza]; rfl
    have hnr := okRows_check (normL_check hza)
    have hres : res = decide (R1 = normL all) := by rw [HRS.out, decide_eq_true hza, Bool.true_and]
    rw [hres]
    generalize normL all = Y at hnA hnr ⊢
    clear hres HRS hza
    refine amStr (h := ?_)
    refine s_frz (fun q => q == 70) ?_
    (refine s_eq (τ := ?_) ?_ ?_; rotate_left; (focus ((try simp only [AS.frz, List.map_cons, List.map_nil]); (try simp [frzV, frzO, frzC, List.filter]); rfl)))
    refine amReg PT242_ok (h := ?_)
    refine amStr (h := ?_)
    refine amReg PT242_ok (h := ?_)
    refine amStr (h := ?_)
    (refine amRt Tryz.results64 (h := ?_); try simp [*])
   ·have hnA : rNormA N all = .tup [.agg [.v (.int .i64 0), .v (.slice none 0 0)], .v (.int .i64 (checkT N all))] := by unfold rNormA; rw [if_neg hza]
    have hne : (checkT N all == 0) = false := by simpa using hza
    have hres : res = false := by rw [HRS.out, decide_eq_false hza, Bool.false_and]
    rw [hres]
    clear hres HRS
    refine amStr (h := ?_)
    refine s_frz (fun q => q == 70) ?_
    (refine s_eq (τ := ?_) ?_ ?_; rotate_left; (focus ((try simp only [AS.frz, List.map_cons, List.map_nil]); (try simp [frzV, frzO, frzC, List.filter]); rfl)))
    refine amReg PT242_ok (h := ?_)
    refine amStr (h := ?_)
    refine amReg PT242_ok (h := ?_)
    refine amStr (h := ?_)
    (refine amRt Tryz.results64 (h := ?_); try simp [*])
 ·refine amStr (h := ?_)
  refine amReg PT242_ok (h := ?_)
  refine amStr (h := ?_)
  refine amReg PT242_ok (h := ?_)
  refine amStr (h := ?_)
  refine s_loop (J := fun x : {x : Nat × List (List Int) × List Bool × Bool // Hid (FitP ns R is R1 us x.1 x.2.1 x.2.2.1 x.2.2.2)} => ⟨144, [(2, aInts is), (3, .ptr 0 0 0), (4, .ptr 1 0 0), (6, .v (.bool false)), (7, .ref 4 0 is.length), (8, .v (.bool x.1.2.2.2)), (9, .v (.int .i64 (x.1.1 : Int)))], [(0, ⟨68, 5, [[.v (.int .i64 N), aRows L, .v (.int .i64 N), aNds ns, aCls cl]]⟩), (1, ⟨24, 2, [[.v (.int .i64 N), aRows x.1.2.1]]⟩), (4, ⟨4, 1, x.1.2.2.1.map fun b => [.v (.bool b)]⟩)], [4, 1, 0]⟩) (μ := fun x => is.length - x.1.1) ⟨(0, R1, us, false), Lib.hid (FitP.start HO.out)⟩ ?_ (fun ⟨⟨k, R2, vs, c⟩, HP⟩ => ?_)
  ·(refine weak_id rfl ?_ ?_ <;> ((try simp only [List.mem_cons, List.not_mem_nil, or_false, forall_eq_or_imp, forall_eq]); (try simp (disch := omega) [i64w, *])))
   all_goals ((repeat' refine And.intro ?_ ?_) <;> first | rfl | exact fun q h => (by rw [bids] at h; cases h) | exact fun q h => (by rw [show ((vs.map fun b => [AV.v (.bool b)]).set k [AV.v (.bool true)]) = (vs.set k true).map (fun b => [AV.v (.bool b)]) from (List.map_set ..).symm, bids] at h; cases h) | trace_state)
  try dsimp only at HP
  try dsimp only
  have hvl := HP.out.hu
  have hkl := HP.out.hk
  have hz2 := run_check HP.out.run hz
  have hR2 := okRows_check hz2
  clear hz1 hR1
  unfold aNds aCls
  refine amStr (h := ?_)
  refine amReg PT242_ok (h := ?_)
  refine amStr (h := ?_)
  (focus ((with_reducible refine sp_cond (b := ?_) ?_ (fun hc => ?_) (fun hc => ?_)); rotate_left; (focus (first | rfl | (simp [lk, AS.ev]; rfl))); all_goals (try simp at hc)))
  ·have hkk : k < is.length := by omega
   clear hc
   have hki : (k : Int) < (is.length : Int) := by omega
   have hwk : IntKind.i64.wrap ((k : Int) + 1) = (k : Int) + 1 := i64s k (by omega)
   obtain ⟨hq0, hq1⟩ := idxB_at hix hkk
   obtain ⟨q, hq⟩ : ∃ q : Nat, is.getD k 0 = (q : Int) := ⟨(is.getD k 0).toNat, by omega⟩
   rw [hq] at hq0 hq1
   have hqn : q < ns.length := by omega
   have hgq := nds_get hqn
   have hvk : k < vs.length := by omega
   have hgv := bget hvk
   obtain ⟨o1, o2, o3, o4⟩ := okNs_at hp.hns hqn
   have huse : useB ns R2 (q : Int) = (decide ((ns.getD q nd0).1 = 2) && decide ([(ns.getD q nd0).2.1] ∈ R2)) := rfl
   have hlit : litN ns (q : Int) = (ns.getD q nd0).2.1 := rfl
   have HSK := Lib.hid (fun h => FitP.skip HP.out hkk h)
   have HUS := Lib.hid (fun h1 h2 => FitP.use HP.out hkk h1 h2)
   rw [hq] at HSK HUS
   obtain ⟨K, hK⟩ : ∃ K, (ns.getD q nd0).1 = K := ⟨_, rfl⟩
   obtain ⟨l, hl⟩ : ∃ l, (ns.getD q nd0).2.1 = l := ⟨_, rfl⟩
   obtain ⟨ix, hix2⟩ : ∃ ix, (ns.getD q nd0).2.2 = ix := ⟨_, rfl⟩
   rw [hK, hl, hix2] at hgq
   rw [hK, hl] at huse
   rw [hl] at hlit o2
   rw [hlit] at HUS
   obtain ⟨d, hd⟩ : ∃ d, vs.getD k false = d := ⟨_, rfl⟩
   rw [hd] at hgv HSK HUS
   have HUE := Lib.hid huse
   clear hK hl hix2 hd huse hlit o1 o3 o4
   cases d
   ·by_cases h2 : K = 2
    ·subst h2
     by_cases h3 : [l] ∈ R2
     ·have hlo := unit_ok hz2 h3
      have HT := Lib.hid (HUS.out rfl (by rw [HUE.out, decide_eq_true h3]; rfl))
      clear HUS HSK HUE
      refine amStr (h := ?_)
      refine amDrw PT242_ok (h := ?_)
      refine amStr (h := ?_)
      refine amReg PT242_ok (h := ?_)
      refine amStr (h := ?_)
      refine amReg PT242_ok (h := ?_)
      refine amStr (h := ?_)
      refine amReg PT242_ok (h := ?_)
      refine amStr (h := ?_)
      refine amReg PT242_ok (h := ?_)
      refine amStr (h := ?_)
      refine amReg PT242_ok (h := ?_)
      refine k_lp (⟨(k + 1, gvV R2 l, vs.set k true, true), HT⟩ : {x : Nat × List (List Int) × List Bool × Bool // Hid (FitP ns R is R1 us x.1 x.2.1 x.2.2.1 x.2.2.2)}) (by dsimp only; omega) ?_
      (refine weak_id rfl ?_ ?_ <;> ((try simp only [List.mem_cons, List.not_mem_nil, or_false, forall_eq_or_imp, forall_eq]); (try simp (disch := omega) [i64w, *])))
      all_goals ((repeat' refine And.intro ?_ ?_) <;> first | rfl | exact fun q h => (by rw [bids] at h; cases h) | exact fun q h => (by rw [show ((vs.map fun b => [AV.v (.bool b)]).set k [AV.v (.bool true)]) = (vs.set k true).map (fun b => [AV.v (.bool b)]) from (List.map_set ..).symm, bids] at h; cases h) | trace_state)
     ·have HT := Lib.hid (HSK.out fun _ => by rw [HUE.out, decide_eq_false h3, Bool.and_false])
      clear HUS HSK HUE
      refine amStr (h := ?_)
      refine amDrw PT242_ok (h := ?_)
      refine amStr (h := ?_)
      refine amReg PT242_ok (h := ?_)
      refine amStr (h := ?_)
      refine amReg PT242_ok (h := ?_)
      refine k_lp (⟨(k + 1, R2, vs, c), HT⟩ : {x : Nat × List (List Int) × List Bool × Bool // Hid (FitP ns R is R1 us x.1 x.2.1 x.2.2.1 x.2.2.2)}) (by dsimp only; omega) ?_
      (refine weak_id rfl ?_ ?_ <;> ((try simp only [List.mem_cons, List.not_mem_nil, or_false, forall_eq_or_imp, forall_eq]); (try simp (disch := omega) [i64w, *])))
      all_goals ((repeat' refine And.intro ?_ ?_) <;> first | rfl | exact fun q h => (by rw [bids] at h; cases h) | exact fun q h => (by rw [show ((vs.map fun b => [AV.v (.bool b)]).set k [AV.v (.bool true)]) = (vs.set k true).map (fun b => [AV.v (.bool b)]) from (List.map_set ..).symm, bids] at h; cases h) | trace_state)
    ·have h2b : (K == 2) = false := by simpa using h2
     have HT := Lib.hid (HSK.out fun _ => by rw [HUE.out, decide_eq_false h2, Bool.false_and])
     clear HUS HSK HUE
     refine amStr (h := ?_)
     refine amDrw PT242_ok (h := ?_)
     refine amStr (h := ?_)
     refine amReg PT242_ok (h := ?_)
     refine amStr (h := ?_)
     refine amReg PT242_ok (h := ?_)
     refine k_lp (⟨(k + 1, R2, vs, c), HT⟩ : {x : Nat × List (List Int) × List Bool × Bool // Hid (FitP ns R is R1 us x.1 x.2.1 x.2.2.1 x.2.2.2)}) (by dsimp only; omega) ?_
     (refine weak_id rfl ?_ ?_ <;> ((try simp only [List.mem_cons, List.not_mem_nil, or_false, forall_eq_or_imp, forall_eq]); (try simp (disch := omega) [i64w, *])))
     all_goals ((repeat' refine And.intro ?_ ?_) <;> first | rfl | exact fun q h => (by rw [bids] at h; cases h) | exact fun q h => (by rw [show ((vs.map fun b => [AV.v (.bool b)]).set k [AV.v (.bool true)]) = (vs.set k true).map (fun b => [AV.v (.bool b)]) from (List.map_set ..).symm, bids] at h; cases h) | trace_state)
   ·have HT := Lib.hid (HSK.out fun h => by cases h)
    clear HUS HSK HUE
    refine amStr (h := ?_)
    refine amDrw PT242_ok (h := ?_)
    refine amStr (h := ?_)
    refine amReg PT242_ok (h := ?_)
    refine amStr (h := ?_)
    refine amReg PT242_ok (h := ?_)
    refine k_lp (⟨(k + 1, R2, vs, c), HT⟩ : {x : Nat × List (List Int) × List Bool × Bool // Hid (FitP ns R is R1 us x.1 x.2.1 x.2.2.1 x.2.2.2)}) (by dsimp only; omega) ?_
    (refine weak_id rfl ?_ ?_ <;> ((try simp only [List.mem_cons, List.not_mem_nil, or_false, forall_eq_or_imp, forall_eq]); (try simp (disch := omega) [i64w, *])))
    all_goals ((repeat' refine And.intro ?_ ?_) <;> first | rfl | exact fun q h => (by rw [bids] at h; cases h) | exact fun q h => (by rw [show ((vs.map fun b => [AV.v (.bool b)]).set k [AV.v (.bool true)]) = (vs.set k true).map (fun b => [AV.v (.bool b)]) from (List.map_set ..).symm, bids] at h; cases h) | trace_state)
  ·obtain rfl : k = is.length := by omega
   clear hc
   have hfin := FitP.fin HP.out
   have hlt : fitM is vs c < fitM is us true := by
    unfold fitM
    cases c
    ·rw [(HP.out.no rfl).2.1]; simp
    ·have := HP.out.less rfl
     simp; omega
   have HFN := Lib.hid hfin
   clear hfin
   refine amStr (h := ?_)
   refine k_lp (⟨(R2, vs, c), HFN⟩ : {x : List (List Int) × List Bool × Bool // Hid (FitO ns R is x.1 x.2.1 x.2.2)}) (by exact hlt) ?_
   (refine weak_id rfl ?_ ?_ <;> ((try simp only [List.mem_cons, List.not_mem_nil, or_false, forall_eq_or_imp, forall_eq]); (try simp (disch := omega) [i64w, *])))
   all_goals ((repeat' refine And.intro ?_ ?_) <;> first | rfl | exact fun q h => (by rw [bids] at h; cases h) | exact fun q h => (by rw [show ((vs.map fun b => [AV.v (.bool b)]).set k [AV.v (.bool true)]) = (vs.set k true).map (fun b => [AV.v (.bool b)]) from (List.map_set ..).symm, bids] at h; cases h) | trace_state)
@[simp] def g_r23Fit : List AV → Option (AV × Bool)
 | [.agg [.v (.int .i64 N), a0, .v (.int .i64 N'), b0, c0], .agg [.v (.int .i64 M), a1], a2] => (match toRows a0 with | some L => (match toNds b0 with | some ns => (match toCls c0 with | some cl => (match toRows a1 with | some R => (match toInts a2 with | some is => if (decide (N' = N) && prfB N L ns cl && okI M && okRows R && okInts is && (decide (M = N) && decide (checkT N R = 0) && idxB ns is && decide (is.length ≤ 400))) = true then some (.v (.bool (fitV N L ns cl R is)), false) else none | none => none) | none => none) | none => none) | none => none) | none => none)
 | _ => none
theorem e_r23Fit : EntOk Tryz.prog 64 g_r23Fit := ent_pure (by kernel_rfl) fun args r fr h => by
 unfold g_r23Fit at h
 split at h
 ·rename_i N a0 N' b0 c0 M a1 a2
  split at h
  ·rename_i L t0
   split at h
   ·rename_i ns s0
    split at h
    ·rename_i cl w0
     split at h
     ·rename_i R t1
      split at h
      ·rename_i is t2
       split at h
       ·rename_i hc
        simp only [Bool.and_eq_true] at hc
        obtain ⟨⟨⟨⟨⟨e0, o0⟩, m1⟩, o1⟩, o2⟩, hk⟩ := hc
        cases h
        exact ⟨FnPure.cov (by have e1 : M = N := of_decide_eq_true hk.1.1.1; have e2 := of_decide_eq_true e0; subst e1; subst e2; exact rfit_p _ L ns cl R is (prf_of o0) o1 (of_decide_eq_true hk.1.1.2) o2 (of_decide_eq_true hk.2) hk.1.2) (.cons (cov_prg e0 t0 s0 w0) (.cons (cov_th _ (cov_rows t1)) (.cons (cov_ints t2) .nil))), rfl⟩
       ·cases h
      ·cases h
     ·cases h
    ·cases h
   ·cases h
  ·cases h
 ·cases h

def l243 : List (FuncId × (List AV → Option (AV × Bool))) :=
 (64, g_r23Fit) :: l242
theorem l243_ok : ∀ p ∈ l243, EntOk Tryz.prog p.1 p.2 := ent_cons e_r23Fit (l242_ok)
def PT243 : PTab := tab l243
theorem PT243_ok : PTok Tryz.prog PT243 := tab_ok l243_ok
@[simp] theorem PT243_r23Fit : PT243 64 = g_r23Fit := rfl
@[simp] theorem PT243_old (f : FuncId) (h : decide (f ≠ 64) = true) : PT243 f = PT242 f := tab_old (of_decide_eq_true h)
end Go.Proofs.YtllkogdgmmcfgaaGreatDoor
