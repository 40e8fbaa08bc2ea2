/- (censusref23.Proof).Accepted; no condition. -/
import Derived.Test.YtllkogdgmmcfgaaGreatDoorRl23
import Derived.Test.YtllkogdgmmcfgaaGreatDoorWl
namespace Go.Proofs.YtllkogdgmmcfgaaGreatDoor
set_option linter.unusedVariables false
set_option linter.unusedSimpArgs false
set_option linter.unusedSectionVars false
open Go.RowKit
open Wlk
attribute [-simp] List.getD_eq_getElem?_getD
set_option maxRecDepth 100000
def nilB (R : List (List Int)) : Bool := decide ([] ∈ R) == (decide (0 < R.length) && decide ((R.getD 0 []).length = 0))
theorem nilB_of {R : List (List Int)} (h : [] ∈ R → R = [] :: R.drop 1 ∧ [] ∉ R.drop 1) : nilB R = true := by
 unfold nilB
 rw [beq_iff_eq, Bool.eq_iff_iff]
 simp only [decide_eq_true_eq, Bool.and_eq_true]
 constructor
 ·intro hn
  have e := (h hn).1
  rw [e]
  simp
 ·rintro ⟨h1, h2⟩
  have e := List.eq_nil_of_length_eq_zero h2
  rw [← e]
  simp [List.getD, h1]
def decV (N : Int) (L : List (List Int)) (ns : List Nd) (cl : List Cl) (R : List (List Int)) (a b : Int) (v : Int) : Bool := sHas (varsT R) v && (decB N L ns cl R a b v || decB N L ns cl R a b (-v))
theorem lit_le {v N : Int} (hv : 1 ≤ v ∧ v ≤ 128) (h : litOk v N = true) : v ≤ N := by
 unfold litOk at h
 rw [litVar_pos hv.1 hv.2] at h
 simp at h
 omega
theorem dec_any {N : Int} {L : List (List Int)} {ns : List Nd} {cl : List Cl} {R : List (List Int)} (hz : checkT N R = 0) (a b : Int) : ((listS (varsT R)).any fun v => [v, -v].any (decB N L ns cl R a b)) = true ↔ ∃ k : Nat, ((k : Int) + 1 ≤ N) ∧ decV N L ns cl R a b ((k : Int) + 1) = true := by
 rw [List.any_eq_true]
 constructor
 ·rintro ⟨v, hv, h⟩
  obtain ⟨h1, h2, _⟩ := vars_lit hz hv
  refine ⟨(v - 1).toNat, ?_, ?_⟩
  ·have := lit_le h1 h2; omega
  ·rw [show (((v - 1).toNat : Nat) : Int) + 1 = v by omega]
   unfold decV
   rw [(listS_mem _ _).1 hv, Bool.true_and]
   simpa using h
 ·rintro ⟨k, h1, h2⟩
  unfold decV at h2
  rw [Bool.and_eq_true] at h2
  refine ⟨(k : Int) + 1, (listS_mem _ _).2 h2.1, ?_⟩
  simpa using h2.2
set_option maxHeartbeats 16000000 in
theorem racc_p (N : Int) (L : List (List Int)) (ns : List Nd) (cl : List Cl) (i : Int) (R : List (List Int)) (hp : Prf N L ns cl) (hi0 : 0 ≤ i) (hi1 : i < (ns.length : Int)) (hR : okRows R = true) (hz : checkT N R = 0) (hnl : nilB R = true) : FnPure Tryz.prog 33 [aPrg N L ns cl, .v (.int .i64 i), aTh N R] (.v (.bool (acptV N L ns cl i R))) := by
 obtain ⟨m, rfl⟩ := Int.eq_ofNat_of_zero_le hi0
 have hm : m < ns.length := by omega
 have hgm := nds_get hm
 obtain ⟨o1, o2, o3, o4⟩ := okNs_at hp.hns hm
 have hix := prf_in hp hm
 have hNo := hp.hN
 have hN2 := (checkT_ok hp.hz).2.1
 have hpB := prfB_of hp
 have hRl := okRows_len hR
 have hsv : acptV N L ns cl (m : Int) R = (if (ns.getD m nd0).1 = 1 then decide (R = []) else if (ns.getD m nd0).1 = 0 then decide ([] ∈ R)
  else if (ns.getD m nd0).1 = 2 then decide (R.length = 1) && decide ([(ns.getD m nd0).2.1] ∈ R)
  else if (ns.getD m nd0).1 = 3 then fitV N L ns cl R (ns.getD m nd0).2.2
  else if (ns.getD m nd0).2.2.length ≠ 2 then false
  else (listS (varsT R)).any fun v => [v, -v].any fun l => sideV N L ns cl R ((ns.getD m nd0).2.2.getD 0 0) l && sideV N L ns cl R ((ns.getD m nd0).2.2.getD 1 0) (-l)) := rfl
 obtain ⟨K, hK⟩ : ∃ K, (ns.getD m nd0).1 = K := ⟨_, rfl⟩
 obtain ⟨j, hj⟩ : ∃ j, (ns.getD m nd0).2.1 = j := ⟨_, rfl⟩
 obtain ⟨is, his⟩ : ∃ is, (ns.getD m nd0).2.2 = is := ⟨_, rfl⟩
 rw [hK, hj, his] at hsv hgm
 rw [hK] at o1
 rw [hj] at o2
 rw [his] at o3 o4 hix
 have HSV := Lib.hid hsv
 have HNL := Lib.hid hnl
 clear hsv hi0 hnl
 unfold aTh aPrg aNds aCls
 refine fn_sp TT_ok Tryz.func33 (c := _) rfl (by simp [Tryz.ntmps33]) (fun B hI0 hro => ?_)
 rw [Tryz.ntmps33]
 simp only [enumA]
 refine amStr (h := ?_)
 refine amReg PT244_ok (h := ?_)
 refine amStr (h := ?_)
 refine amReg PT244_ok (h := ?_)
 refine amStr (h := ?_)
 refine amReg PT244_ok (h := ?_)
 refine amStr (h := ?_)
 clear hgm
 refine s_weak (τ := ⟨112, [(3, .ptr 0 0 0), (5, .ptr 1 0 0), (7, .ptr 50 0 0), (6, .v (.bool false)), (16, .v (.int .i64 K))], [(50, ⟨32, 3, [[.v (.int .i64 K), .v (.int .i64 j), aInts is]]⟩), (0, ⟨68, 5, [[.v (.int .i64 N), aRows L, .v (.int .i64 N), aNds ns, aCls cl]]⟩), (1, ⟨24, 2, [[.v (.int .i64 N), aRows R]]⟩)], [50, 1, 0]⟩) ?_ ?_
 ·(refine weak_of (fun q => if q = 50 then 8 else q) ⟨rfl, ?_, ?_, ?_⟩ <;> ((try simp only [List.mem_cons, List.not_mem_nil, or_false, forall_eq_or_imp, forall_eq]); (try simp (disch := omega) [lk, AV.ids, idsL, idsLL, AV.ren, renL, renLL, i64w, *])))
  all_goals first | rfl | exact ⟨rfl, rfl⟩ | trace_state
 clear hK hj his
 unfold aNds aCls
 have hRn : ((R.length : Int) == 0) = decide (R = []) := by cases R <;> simp <;> omega
 have hR1 : ((R.length : Int) == 1) = decide (R.length = 1) := by rw [Bool.eq_iff_iff]; simp; omega
 by_cases hk1 : K = 1
 ·subst hk1
  have hF := HSV.out
  rw [if_pos rfl] at hF
  rw [hF]
  refine amStr (h := ?_)
  refine amReg PT244_ok (h := ?_)
  refine amStr (h := ?_)
  refine amReg PT244_ok (h := ?_)
  refine amStr (h := ?_)
  (refine amRt Tryz.results33 (h := ?_); try simp [*])
 have hF1 := HSV.out
 rw [if_neg hk1] at hF1
 have hkb1 : (K == 1) = false := by simpa using hk1
 by_cases hk0 : K = 0
 ·subst hk0
  rw [if_pos rfl] at hF1
  rw [hF1]
  have hnn := HNL.out
  unfold nilB at hnn
  rw [beq_iff_eq] at hnn
  rw [hnn]
  clear hF1 hRn hR1 hnn
  by_cases hr0 : 0 < R.length
  ·have hr0i : (0 : Int) < (R.length : Int) := by omega
   have hcb : (((R.getD 0 []).length : Int) == 0) = decide ((R.getD 0 []).length = 0) := by rw [Bool.eq_iff_iff]; simp
   rw [decide_eq_true hr0, Bool.true_and]
   obtain ⟨c, hcc⟩ : ∃ c, R.getD 0 [] = c := ⟨_, rfl⟩
   rw [hcc] at hcb ⊢
   refine amStr (h := ?_)
   refine amReg PT244_ok (h := ?_)
   refine amStr (h := ?_)
   refine amReg PT244_ok (h := ?_)
   refine amStr (h := ?_)
   refine amReg PT244_ok (h := ?_)
   refine amStr (h := ?_)
   (refine amRt Tryz.results33 (h := ?_); try simp [*])
  ·have hr0e : R.length = 0 := by omega
   rw [decide_eq_false hr0, Bool.false_and]
   refine amStr (h := ?_)
   refine amReg PT244_ok (h := ?_)
   refine amStr (h := ?_)
   refine amReg PT244_ok (h := ?_)
   refine amStr (h := ?_)
   refine amReg PT244_ok (h := ?_)
   refine amStr (h := ?_)
   (refine amRt Tryz.results33 (h := ?_); try simp [*])
 rw [if_neg hk0] at hF1
 have hkb0 : (K == 0) = false := by simpa using hk0
 by_cases hk2 : K = 2
 ·subst hk2
  rw [if_pos rfl] at hF1
  rw [hF1]
  cases hd1 : decide (R.length = 1)
  ·rw [hd1] at hR1
   refine amStr (h := ?_)
   refine amReg PT244_ok (h := ?_)
   refine amStr (h := ?_)
   refine amReg PT244_ok (h := ?_)
   refine amStr (h := ?_)
   refine amReg PT244_ok (h := ?_)
   refine amStr (h := ?_)
   refine amReg PT244_ok (h := ?_)
   refine amStr (h := ?_)
   (refine amRt Tryz.results33 (h := ?_); try simp [*])
  ·rw [hd1] at hR1
   rw [Bool.true_and]
   refine amStr (h := ?_)
   refine amReg PT244_ok (h := ?_)
   refine amStr (h := ?_)
   refine amReg PT244_ok (h := ?_)
   refine amStr (h := ?_)
   refine amReg PT244_ok (h := ?_)
   refine amStr (h := ?_)
   refine amReg PT244_ok (h := ?_)
   refine amStr (h := ?_)
   (refine amRt Tryz.results33 (h := ?_); try simp [*])
 rw [if_neg hk2] at hF1
 have hkb2 : (K == 2) = false := by simpa using hk2
 by_cases hk3 : K = 3
 ·subst hk3
  rw [if_pos rfl] at hF1
  rw [hF1]
  refine amStr (h := ?_)
  refine amReg PT244_ok (h := ?_)
  refine amStr (h := ?_)
  refine amReg PT244_ok (h := ?_)
  refine amStr (h := ?_)
  refine amReg PT244_ok (h := ?_)
  refine amStr (h := ?_)
  refine amReg PT244_ok (h := ?_)
  refine amStr (h := ?_)
  refine amReg PT244_ok (h := ?_)
  refine amStr (h := ?_)
  (refine amRt Tryz.results33 (h := ?_); try simp [*])
 rw [if_neg hk3] at hF1
 have hkb3 : (K == 3) = false := by simpa using hk3
 have HF1 := Lib.hid hF1
 clear hF1 HSV HNL
 refine amStr (h := ?_)
 refine amReg PT244_ok (h := ?_)
 refine amStr (h := ?_)
 refine amReg PT244_ok (h := ?_)
 refine amStr (h := ?_)
 refine amReg PT244_ok (h := ?_)
 refine amStr (h := ?_)
 refine amReg PT244_ok (h := ?_)
 refine amStr (h := ?_)
 by_cases hl2 : is.length = 2
 ·have hlb : ((is.length : Int) != 2) = false := by simp; omega
  have hF := HF1.out
  rw [if_neg (by omega)] at hF
  rw [hF]
  have hi0 := idxB_at hix (k := 0) (by omega)
  have hi1 := idxB_at hix (k := 1) (by omega)
  have hz0 : 0 < is.length := by omega
  have hz1 : 1 < is.length := by omega
  obtain ⟨x, hx⟩ : ∃ x, is.getD 0 0 = x := ⟨_, rfl⟩
  obtain ⟨y, hy⟩ : ∃ y, is.getD 1 0 = y := ⟨_, rfl⟩
  have hxo : okI x = true := hx ▸ okI_iff.2 (okInts_at o3 0)
  have hyo : okI y = true := hy ▸ okI_iff.2 (okInts_at o3 1)
  rw [hx] at hi0
  rw [hy] at hi1
  rw [hx, hy]
  obtain ⟨hx0, hx1⟩ := hi0
  obtain ⟨hy0, hy1⟩ := hi1
  have HD := Lib.hid (dec_any (L := L) (ns := ns) (cl := cl) hz x y)
  have HVL := Lib.hid (fun v => vars_lit (v := v) hz)
  have hdec : ((listS (varsT R)).any fun v => [v, -v].any fun l => sideV N L ns cl R x l && sideV N L ns cl R y (-l)) = (listS (varsT R)).any fun v => [v, -v].any (decB N L ns cl R x y) := rfl
  rw [hdec]
  obtain ⟨res, hres⟩ : ∃ res, ((listS (varsT R)).any fun v => [v, -v].any (decB N L ns cl R x y)) = res := ⟨_, rfl⟩
  rw [hres]
  rw [hres] at HD
  have hvo : varsOf N R = varsT R := by unfold varsOf; rw [if_pos hz]
  clear hF hdec HF1 hres
  refine amStr (h := ?_)
  refine amReg PT244_ok (h := ?_)
  refine amStr (h := ?_)
  refine amReg PT244_ok (h := ?_)
  refine amStr (h := ?_)
  refine s_loop (J := fun k : {k : Nat // (k : Int) ≤ 128 ∧ Hid (∀ u : Nat, u < k → decV N L ns cl R x y ((u : Int) + 1) = false)} => ⟨112, [(3, .ptr 0 0 0), (5, .ptr 1 0 0), (7, .ptr 50 0 0), (6, .v (.bool false)), (8, .v (.int .i64 ((k.1 : Int) + 1)))], [(50, ⟨32, 3, [[.v (.int .i64 K), .v (.int .i64 j), aInts is]]⟩), (0, ⟨68, 5, [[.v (.int .i64 N), aRows L, .v (.int .i64 N), aNds ns, aCls cl]]⟩), (1, ⟨24, 2, [[.v (.int .i64 N), aRows R]]⟩)], [50, 1, 0]⟩) (μ := fun k => 128 - k.1) ⟨0, by omega, Lib.hid fun u hu => by omega⟩ ?_ (fun ⟨k, hk, HK⟩ => ?_)
  ·(refine weak_id rfl ?_ ?_ <;> ((try simp only [List.mem_cons, List.not_mem_nil, or_false, forall_eq_or_imp, forall_eq]); (try simp (disch := omega) [i64w, *])))
   all_goals first | rfl | exact ⟨rfl, rfl⟩ | trace_state
  try dsimp only at hk HK
  try dsimp only
  unfold aNds aCls
  obtain ⟨v, hv⟩ : ∃ v : Int, (k : Int) + 1 = v := ⟨_, rfl⟩
  rw [hv]
  by_cases hc : v ≤ N
  ·have hv1 : 1 ≤ v := by omega
   have hv2 : v ≤ 128 := by omega
   have hov : okI v = true := okI_iff.2 ⟨by omega, by omega⟩
   have hov2 : okI (-v) = true := okI_iff.2 ⟨by omega, by omega⟩
   have hwn : IntKind.i64.wrap (-v) = -v := i64w (by omega) (by omega)
   have hwv : IntKind.i64.wrap (v + 1) = v + 1 := i64w (by omega) (by omega)
   have hvk : v + 1 = ((k + 1 : Nat) : Int) + 1 := by omega
   have HKN : Hid (decV N L ns cl R x y v = false → ∀ u : Nat, u < k + 1 → decV N L ns cl R x y ((u : Int) + 1) = false) := Lib.hid fun h u hu => by
    by_cases e : u = k
    ·rw [e, hv]; exact h
    ·exact HK.out u (by omega)
   have HY : Hid (decV N L ns cl R x y v = true → res = true) := Lib.hid fun h => HD.out.2 ⟨k, by omega, by rw [hv]; exact h⟩
   have HDV : Hid (decV N L ns cl R x y v = (sHas (varsT R) v && ((sideV N L ns cl R x v && sideV N L ns cl R y (-v)) || (sideV N L ns cl R x (-v) && sideV N L ns cl R y v)))) := Lib.hid (by unfold decV decB; rw [Int.neg_neg])
   have HKM : Hid (k + 1 ≤ 128) := Lib.hid (by omega)
   clear hv
   cases hh : sHas (varsT R) v
   ·have HT := Lib.hid (HKN.out (by rw [HDV.out, hh, Bool.false_and]))
    clear HKN HY HDV
    refine amStr (h := ?_)
    refine amReg PT244_ok (h := ?_)
    refine amStr (h := ?_)
    refine amReg PT244_ok (h := ?_)
    refine amStr (h := ?_)
    refine amReg PT244_ok (h := ?_)
    refine k_lp (⟨k + 1, by have := HKM.out; omega, HT⟩ : {k : Nat // (k : Int) ≤ 128 ∧ Hid (∀ u : Nat, u < k → decV N L ns cl R x y ((u : Int) + 1) = false)}) (by have := HKM.out; dsimp only; omega) ?_
    (refine weak_id rfl ?_ ?_ <;> ((try simp only [List.mem_cons, List.not_mem_nil, or_false, forall_eq_or_imp, forall_eq]); (try simp (disch := omega) [i64w, *])))
    all_goals first | rfl | exact ⟨rfl, rfl⟩ | trace_state
   ·obtain ⟨_, hlo1, hlo2⟩ := HVL.out v ((listS_mem _ _).2 hh)
    cases hs1 : sideV N L ns cl R x v
    ·cases hs3 : sideV N L ns cl R x (-v)
     ·have HT := Lib.hid (HKN.out (by rw [HDV.out, hh, hs1, hs3]; simp))
      clear HKN HY HDV HVL
      refine amStr (h := ?_)
      refine amReg PT244_ok (h := ?_)
      refine amStr (h := ?_)
      refine amReg PT244_ok (h := ?_)
      refine amStr (h := ?_)
      refine amDrs PT244_ok (h := ?_)
      refine amStr (h := ?_)
      refine amReg PT244_ok (h := ?_)
      refine k_lp (⟨k + 1, by have := HKM.out; omega, HT⟩ : {k : Nat // (k : Int) ≤ 128 ∧ Hid (∀ u : Nat, u < k → decV N L ns cl R x y ((u : Int) + 1) = false)}) (by have := HKM.out; dsimp only; omega) ?_
      (refine weak_id rfl ?_ ?_ <;> ((try simp only [List.mem_cons, List.not_mem_nil, or_false, forall_eq_or_imp, forall_eq]); (try simp (disch := omega) [i64w, *])))
      all_goals first | rfl | exact ⟨rfl, rfl⟩ | trace_state
     ·cases hs4 : sideV N L ns cl R y v
      ·have HT := Lib.hid (HKN.out (by rw [HDV.out, hh, hs1, hs3, hs4]; simp))
       clear HKN HY HDV HVL
       refine amStr (h := ?_)
       refine amReg PT244_ok (h := ?_)
       refine amStr (h := ?_)
       refine amReg PT244_ok (h := ?_)
       refine amStr (h := ?_)
       refine amDrs PT244_ok (h := ?_)
       refine amStr (h := ?_)
       refine amReg PT244_ok (h := ?_)
       refine k_lp (⟨k + 1, by have := HKM.out; omega, HT⟩ : {k : Nat // (k : Int) ≤ 128 ∧ Hid (∀ u : Nat, u < k → decV N L ns cl R x y ((u : Int) + 1) = false)}) (by have := HKM.out; dsimp only; omega) ?_
       (refine weak_id rfl ?_ ?_ <;> ((try simp only [List.mem_cons, List.not_mem_nil, or_false, forall_eq_or_imp, forall_eq]); (try simp (disch := omega) [i64w, *])))
       all_goals first | rfl | exact ⟨rfl, rfl⟩ | trace_state
      ·have hT : res = true := HY.out (by rw [HDV.out, hh, hs1, hs3, hs4]; simp)
       subst hT
       clear HKN HY HDV HVL
       refine amStr (h := ?_)
       refine amReg PT244_ok (h := ?_)
       refine amStr (h := ?_)
       refine amReg PT244_ok (h := ?_)
       refine amStr (h := ?_)
       refine amDrs PT244_ok (h := ?_)
       refine amStr (h := ?_)
       refine amReg PT244_ok (h := ?_)
       refine amStr (h := ?_)
       (refine amRt Tryz.results33 (h := ?_); try simp [*])
    ·cases hs2 : sideV N L ns cl R y (-v)
     ·cases hs3 : sideV N L ns cl R x (-v)
      ·have HT := Lib.hid (HKN.out (by rw [HDV.out, hh, hs1, hs2, hs3]; simp))
       clear HKN HY HDV HVL
       refine amStr (h := ?_)
       refine amReg PT244_ok (h := ?_)
       refine amStr (h := ?_)
       refine amReg PT244_ok (h := ?_)
       refine amStr (h := ?_)
       refine amDrs PT244_ok (h := ?_)
       refine amStr (h := ?_)
       refine amReg PT244_ok (h := ?_)
       refine k_lp (⟨k + 1, by have := HKM.out; omega, HT⟩ : {k : Nat // (k : Int) ≤ 128 ∧ Hid (∀ u : Nat, u < k → decV N L ns cl R x y ((u : Int) + 1) = false)}) (by have := HKM.out; dsimp only; omega) ?_
       (refine weak_id rfl ?_ ?_ <;> ((try simp only [List.mem_cons, List.not_mem_nil, or_false, forall_eq_or_imp, forall_eq]); (try simp (disch := omega) [i64w, *])))
       all_goals first | rfl | exact ⟨rfl, rfl⟩ | trace_state
      ·cases hs4 : sideV N L ns cl R y v
       ·have HT := Lib.hid (HKN.out (by rw [HDV.out, hh, hs1, hs2, hs3, hs4]; simp))
        clear HKN HY HDV HVL
        refine amStr (h := ?_)
        refine amReg PT244_ok (h := ?_)
        refine amStr (h := ?_)
        refine amReg PT244_ok (h := ?_)
        refine amStr (h := ?_)
        refine amDrs PT244_ok (h := ?_)
        refine amStr (h := ?_)
        refine amReg PT244_ok (h := ?_)
        refine k_lp (⟨k + 1, by have := HKM.out; omega, HT⟩ : {k : Nat // (k : Int) ≤ 128 ∧ Hid (∀ u : Nat, u < k → decV N L ns cl R x y ((u : Int) + 1) = false)}) (by have := HKM.out; dsimp only; omega) ?_
        (refine weak_id rfl ?_ ?_ <;> ((try simp only [List.mem_cons, List.not_mem_nil, or_false, forall_eq_or_imp, forall_eq]); (try simp (disch := omega) [i64w, *])))
        all_goals first | rfl | exact ⟨rfl, rfl⟩ | trace_state
       ·have hT : res = true := HY.out (by rw [HDV.out, hh, hs1, hs2, hs3, hs4]; simp)
        subst hT
        clear HKN HY HDV HVL
        refine amStr (h := ?_)
        refine amReg PT244_ok (h := ?_)
        refine amStr (h := ?_)
        refine amReg PT244_ok (h := ?_)
        refine amStr (h := ?_)
        refine amDrs PT244_ok (h := ?_)
        refine amStr (h := ?_)
        refine amReg PT244_ok (h := ?_)
        refine amStr (h := ?_)
        (refine amRt Tryz.results33 (h := ?_); try simp [*])
     ·have hT : res = true := HY.out (by rw [HDV.out, hh, hs1, hs2]; simp)
      subst hT
      clear HKN HY HDV HVL
      refine amStr (h := ?_)
      refine amReg PT244_ok (h := ?_)
      refine amStr (h := ?_)
      refine amReg PT244_ok (h := ?_)
      refine amStr (h := ?_)
      refine amDrs PT244_ok (h := ?_)
      refine amStr (h := ?_)
      refine amReg PT244_ok (h := ?_)
      refine amStr (h := ?_)
      (refine amRt Tryz.results33 (h := ?_); try simp [*])
  ·have hT : res = false := by
    cases hr : res with
    | false => rfl
    | true =>
     obtain ⟨u, hu1, hu2⟩ := HD.out.1 hr
     rw [HK.out u (by omega)] at hu2; cases hu2
   subst hT
   refine amStr (h := ?_)
   refine amReg PT244_ok (h := ?_)
   refine amStr (h := ?_)
   refine amReg PT244_ok (h := ?_)
   refine amStr (h := ?_)
   (refine amRt Tryz.results33 (h := ?_); try simp [*])
 ·have hlb : ((is.length : Int) != 2) = true := by simp; omega
  have hF := HF1.out
  rw [if_pos hl2] at hF
  rw [hF]
  refine amStr (h := ?_)
  refine amReg PT244_ok (h := ?_)
  refine amStr (h := ?_)
  refine amReg PT244_ok (h := ?_)
  refine amStr (h := ?_)
  (refine amRt Tryz.results33 (h := ?_); try simp [*])
@[simp] def g_r23Acc : List AV → Option (AV × Bool)
 | [.agg [.v (.int .i64 N), a0, .v (.int .i64 N'), b0, c0], .v (.int .i64 j), .agg [.v (.int .i64 M), a2]] => (match toRows a0 with | some L => (match toNds b0 with | some ns => (match toCls c0 with | some cl => (match toRows a2 with | some R => if (decide (N' = N) && prfB N L ns cl && okI j && okI M && okRows R && (decide (M = N) && decide (checkT N R = 0) && decide (0 ≤ j) && decide (j < (ns.length : Int)) && nilB R)) = true then some (.v (.bool (acptV N L ns cl j R)), false) else none | none => none) | none => none) | none => none) | none => none)
 | _ => none
theorem e_r23Acc : EntOk Tryz.prog 33 g_r23Acc := ent_pure (by kernel_rfl) fun args r fr h => by
 unfold g_r23Acc at h
 split at h
 ·rename_i N a0 N' b0 c0 j M a2
  split at h
  ·rename_i L t0
   split at h
   ·rename_i ns s0
    split at h
    ·rename_i cl w0
     split at h
     ·rename_i R t2
      split at h
      ·rename_i hc
       simp only [Bool.and_eq_true] at hc
       obtain ⟨⟨⟨⟨⟨e0, o0⟩, o1⟩, m2⟩, o2⟩, hk⟩ := hc
       cases h
       exact ⟨FnPure.cov (by have e1 : M = N := of_decide_eq_true hk.1.1.1.1; have e2 := of_decide_eq_true e0; subst e1; subst e2; exact racc_p _ L ns cl j R (prf_of o0) (of_decide_eq_true hk.1.1.2) (of_decide_eq_true hk.1.2) o2 (of_decide_eq_true hk.1.1.1.2) hk.2) (.cons (cov_prg e0 t0 s0 w0) (.cons (Cov.refl _) (.cons (cov_th _ (cov_rows t2)) .nil))), rfl⟩
      ·cases h
     ·cases h
    ·cases h
   ·cases h
  ·cases h
 ·cases h

def l245 : List (FuncId × (List AV → Option (AV × Bool))) :=
 (33, g_r23Acc) :: l244
theorem l245_ok : ∀ p ∈ l245, EntOk Tryz.prog p.1 p.2 := ent_cons e_r23Acc (l244_ok)
def PT245 : PTab := tab l245
theorem PT245_ok : PTok Tryz.prog PT245 := tab_ok l245_ok
@[simp] theorem PT245_r23Acc : PT245 33 = g_r23Acc := rfl
@[simp] theorem PT245_old (f : FuncId) (h : decide (f ≠ 33) = true) : PT245 f = PT244 f := tab_old (of_decide_eq_true h)
end Go.Proofs.YtllkogdgmmcfgaaGreatDoor
