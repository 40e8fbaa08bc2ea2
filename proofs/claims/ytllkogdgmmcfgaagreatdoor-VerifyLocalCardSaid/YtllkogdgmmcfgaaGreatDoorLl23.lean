/- The law VerifyLocal: claims of nodes that are not needed do not matter, nor does the order of terms; no condition. -/
import Derived.Test.YtllkogdgmmcfgaaGreatDoorNd23
import Derived.Test.YtllkogdgmmcfgaaGreatDoorWa
import Derived.Test.YtllkogdgmmcfgaaGreatDoorPc23
import Derived.Test.YtllkogdgmmcfgaaGreatDoorLd
namespace Go.Proofs.YtllkogdgmmcfgaaGreatDoor
set_option linter.unusedVariables false
set_option linter.unusedSimpArgs false
set_option linter.unusedSectionVars false
open Go.RowKit Go.WideShapes Go.ChangeShapes Go.ChangeAt
attribute [local simp] List.getD_cons_zero List.getD_cons_succ List.getD_nil undef gvars runL runE effA stepA dstOk wantA core lk st dl AS.ev AS.evs AS.put AS.upd updO updI nxt cPick cAlloc cBox cBuild cBuildS cLoad cStore cNil plainOf cBin cNilS isNilS nilA cUn cConvX cConvB cConv bytesOf rowB cMake cSlice slA idxA cFA cF cIA cIX cIS cI cExt cLen cApp cMM cFun cCall lenA lenM isNilM nilM cNilM cMakeM hintB cMapK cLook foundR lookR cUpd putM cDel delM findA isKeyB Instr.sameNow AS.entry AS.bound AS.callee sc1 sc2 ixOk ldA AV.flat AV.cell AV.cells Value.oneCell' fillA spl chunk zeros AS.parts AS.rows AS.shut AS.shut1 AS.shut2 AS.shutL AS.shutM AV.ids idsL idsLL eqAll bndA AV.scalar AV.scalar1 AV.isV Ef.app Ef.pk ptOf pntO wrO wr
attribute [-simp] List.getD_eq_getElem?_getD
set_option maxRecDepth 100000
def turnN (ns : List Nd) (cl : List Cl) (o : Cl) (q : Nat) : Cl := if nedB ns q = true then ((cl.getD q ([], [])).1.reverse, (cl.getD q ([], [])).2) else o
def turnL (ns : List Nd) (cl : List Cl) (o : Cl) (i : Nat) : List Cl := (List.range i).map (turnN ns cl o)
theorem turnL_zero (ns : List Nd) (cl : List Cl) (o : Cl) : turnL ns cl o 0 = [] := rfl
theorem turnL_succ (ns : List Nd) (cl : List Cl) (o : Cl) (i : Nat) : turnL ns cl o (i + 1) = turnL ns cl o i ++ [turnN ns cl o i] := by unfold turnL; rw [List.range_succ, List.map_append]; rfl
theorem turnL_len (ns : List Nd) (cl : List Cl) (o : Cl) (i : Nat) : (turnL ns cl o i).length = i := by simp [turnL]
theorem okInts_rev {ts : List Int} (h : okInts ts = true) : okInts ts.reverse = true := by
 unfold okInts at h ⊢
 rw [Bool.and_eq_true, List.all_eq_true] at h ⊢
 exact ⟨fun x hx => h.1 x (List.mem_reverse.1 hx), by rw [List.length_reverse]; exact h.2⟩
theorem turnL_ok {ns : List Nd} {cl : List Cl} {o : Cl} (hc : okCl cl = true) (h1 : okInts o.1 = true) (h2 : okInts o.2 = true) : okCl (turnL ns cl o cl.length) = true := by
 unfold okCl
 rw [Bool.and_eq_true, decide_eq_true_eq, turnL_len]
 refine ⟨okCl_len hc, List.all_eq_true.2 fun p hp => ?_⟩
 unfold turnL at hp
 obtain ⟨q, hq, rfl⟩ := List.mem_map.1 hp
 have hq := List.mem_range.1 hq
 obtain ⟨c1, c2⟩ := okCl_at hc (cl_mem hq)
 unfold turnN
 split
 ·rw [okInts_rev c1, c2]; rfl
 ·rw [h1, h2]; rfl
theorem turnL_turn {ns : List Nd} {cl : List Cl} (o : Cl) (hl : cl.length = ns.length) : TurnC ns cl (turnL ns cl o cl.length) := by
 refine ⟨turnL_len .., fun i hi hn => ?_⟩
 rw [← hl] at hi
 unfold clN
 rw [show ((i : Nat) : Int).toNat = i by omega]
 unfold turnL
 rw [List.getD_eq_getElem?_getD, List.getElem?_map, List.getElem?_range hi]
 show turnN ns cl o i = _
 unfold turnN
 rw [if_pos hn]
theorem rev_get {ts : List Int} {j : Nat} (hj : j < ts.length) : ts.getD (ts.length - 1 - j) 0 = ts.reverse.getD j 0 := by
 rw [List.getD_eq_getElem?_getD, List.getD_eq_getElem?_getD, List.getElem?_reverse hj]
set_option maxHeartbeats 8000000 in
theorem verifyLocal_p (N : Int) (L : List (List Int)) (M : Int) (ns : List Nd) (cl : List Cl) (ots ocs : List Int) (hN : okI N = true) (hL : okRows L = true) (hM : okI M = true) (hns : okNZ ns = true) (hcl : okLC cl = true) (ho1 : okInts ots = true) (ho2 : okInts ocs = true) : FnPure Tryz.prog 7 [aTh N L, aNet M ns, aCls cl, .agg [aInts ots, aInts ocs]] (.v (.bool true)) := by
 have hm := okRows_len hL
 have hnl := okNZ_len hns
 have hcll := okLC_len hcl
 have hol1 := okInts_len ho1
 have hol2 := okInts_len ho2
 unfold aTh aNet aNds aCls
 cases hf : fewP L ns cl
 ·refine fn_sp TT_ok Tryz.func7 (c := _) rfl (by simp [Tryz.ntmps7]) (fun B hI0 hro => ?_)
  rw [Tryz.ntmps7]
  simp only [enumA]
  refine amGo PT221_ok (h := ?_)
  (refine amRt Tryz.results7 (h := ?_); try simp [*])
 have hr := few_r hL hns hcl hf
 have hns2 := hr.hns
 have hcl2 := hr.hcl
 have hcl110 := hr.ll
 have HLP := Lib.hid hr.lp
 clear hr
 by_cases hlen0 : ¬ (cl.length = ns.length)
 ·have hlb : ((cl.length : Int) != (ns.length : Int)) = true := by simp; omega
  refine fn_sp TT_ok Tryz.func7 (c := _) rfl (by simp [Tryz.ntmps7]) (fun B hI0 hro => ?_)
  rw [Tryz.ntmps7]
  simp only [enumA]
  refine amGo PT221_ok (h := ?_)
  (refine amRt Tryz.results7 (h := ?_); try simp [*])
 have hlen : cl.length = ns.length := Classical.not_not.1 hlen0
 clear hlen0
 have hlb : ((cl.length : Int) != (ns.length : Int)) = false := by simp; omega
 cases hv : validN M ns
 ·refine fn_sp TT_ok Tryz.func7 (c := _) rfl (by simp [Tryz.ntmps7]) (fun B hI0 hro => ?_)
  rw [Tryz.ntmps7]
  simp only [enumA]
  refine amGo PT221_ok (h := ?_)
  (refine amRt Tryz.results7 (h := ?_); try simp [*])
 by_cases h1 : 100 < (ots.length : Int)
 ·refine fn_sp TT_ok Tryz.func7 (c := _) rfl (by simp [Tryz.ntmps7]) (fun B hI0 hro => ?_)
  rw [Tryz.ntmps7]
  simp only [enumA]
  refine amGo PT221_ok (h := ?_)
  (refine amRt Tryz.results7 (h := ?_); try simp [*])
 by_cases h2 : 100 < (ocs.length : Int)
 ·refine fn_sp TT_ok Tryz.func7 (c := _) rfl (by simp [Tryz.ntmps7]) (fun B hI0 hro => ?_)
  rw [Tryz.ntmps7]
  simp only [enumA]
  refine amGo PT221_ok (h := ?_)
  (refine amRt Tryz.results7 (h := ?_); try simp [*])
 have HV := Lib.hid (ver_turn (N := N) (L := L) (M := M) (turnL_turn (ns := ns) (cl := cl) (ots, ocs) hlen))
 have HK := Lib.hid (turnL_ok (ns := ns) (o := (ots, ocs)) hcl2 ho1 ho2)
 refine fn_sp TT_ok Tryz.func7 (c := _) rfl (by simp [Tryz.ntmps7]) (fun B hI0 hro => ?_)
 rw [Tryz.ntmps7]
 simp only [enumA]
 refine amGo PT221_ok (h := ?_)
 refine s_nil 9 50 37 2 (by simp [lk]) (by simp) ?_
 simp only [st]
 refine s_loop (J := fun i : {i : Nat // i ≤ cl.length} => ⟨121, [(2, aCls cl), (4, .ptr 0 0 0), (5, .ptr 1 0 0), (7, .ptr 2 0 0), (8, .v (.bool false)), (9, .ref 50 0 i.1), (10, .v (.int .i64 (i.1 : Int)))], [(50, ⟨37, 2, (turnL ns cl (ots, ocs) i.1).map fun p => [aInts p.1, aInts p.2]⟩), (0, ⟨24, 2, [[.v (.int .i64 N), aRows L]]⟩), (1, ⟨28, 2, [[.v (.int .i64 M), aNds ns]]⟩), (2, ⟨37, 2, [[aInts ots, aInts ocs]]⟩)], [50, 2, 1, 0]⟩) (μ := fun i => cl.length - i.1) ⟨0, Nat.zero_le _⟩ ?_ (fun ⟨i, hi⟩ => ?_)
 ·have hk0 := turnL_zero ns cl (ots, ocs)
  (refine weak_id rfl ?_ ?_ <;> ((try simp only [List.mem_cons, List.not_mem_nil, or_false, forall_eq_or_imp, forall_eq]); (try simp (disch := omega) [i64w, *])))
  all_goals rfl
 dsimp only
 unfold aCls
 refine amStr (h := ?_)
 refine amReg PT221_ok (h := ?_)
 refine amStr (h := ?_)
 (focus ((with_reducible refine sp_cond (b := ?_) ?_ (fun hc => ?_) (fun hc => ?_)); rotate_left; (focus (first | rfl | (simp [lk, AS.ev]; rfl))); all_goals (try simp at hc)))
 ·have hii : i < cl.length := by omega
  clear hc
  have hin : i < ns.length := by omega
  have hji : (i : Int) < (ns.length : Int) := by omega
  have hjc : (i : Int) < (cl.length : Int) := by omega
  have hi0 : (0 : Int) ≤ (i : Int) := by omega
  have hio : okI (i : Int) = true := okI_iff.2 ⟨by omega, by omega⟩
  have htl := turnL_len ns cl (ots, ocs) i
  have hts := turnL_succ ns cl (ots, ocs) i
  have htn : turnN ns cl (ots, ocs) i = if nedB ns i = true then ((cl.getD i ([], [])).1.reverse, (cl.getD i ([], [])).2) else (ots, ocs) := rfl
  have hget := cls_get hii
  have hlp := HLP.out _ (cl_mem hii)
  have hco := okCl_at hcl2 (cl_mem hii)
  obtain ⟨ts, hts1⟩ : ∃ ts, (cl.getD i ([], [])).1 = ts := ⟨_, rfl⟩
  obtain ⟨cs, hcs1⟩ : ∃ cs, (cl.getD i ([], [])).2 = cs := ⟨_, rfl⟩
  rw [hts1, hcs1] at hget htn hlp hco
  obtain ⟨hp1, hp2⟩ := hlp
  obtain ⟨hc1, hc2⟩ := hco
  have hwi : IntKind.i64.wrap ((i : Int) + 1) = (i : Int) + 1 := i64s i (by omega)
  have hcap : (i + 1) * 48 ≤ 140737488355328 := by omega
  rw [htn] at hts
  clear htn hts1 hcs1
  obtain ⟨T, hT⟩ : ∃ T, turnL ns cl (ots, ocs) i = T := ⟨_, rfl⟩
  rw [hT] at hts htl
  rw [hT]
  obtain ⟨b, hb⟩ : ∃ b, nedB ns i = b := ⟨_, rfl⟩
  rw [hb] at hts
  have HT := Lib.hid hT
  have HS := Lib.hid hts
  clear hT hts
  cases b
  ·have hts := HS.out
   rw [if_neg (by decide)] at hts
   refine amStr (h := ?_)
   refine amReg PT221_ok (h := ?_)
   refine amStr (h := ?_)
   refine amReg PT221_ok (h := ?_)
   refine amStr (h := ?_)
   refine amReg PT221_ok (h := ?_)
   refine k_lp (⟨i + 1, hii⟩ : {i : Nat // i ≤ cl.length}) (by dsimp only; omega) ?_
   (refine weak_of (fun k => if k = 50 then 54 else k) ⟨rfl, ?_, ?_, ?_⟩ <;> ((try simp only [List.mem_cons, List.not_mem_nil, or_false, forall_eq_or_imp, forall_eq]); (try simp (disch := omega) [lk, AV.ids, idsL, idsLL, AV.ren, renL, renLL, i64w, *])))
   all_goals first | rfl | trace_state
  ·have hts := HS.out
   rw [if_pos rfl] at hts
   have hw1 : IntKind.i64.wrap ((ts.length : Int) - 1) = (ts.length : Int) - 1 := i64w (by omega) (by omega)
   clear HS
   refine amStr (h := ?_)
   refine amReg PT221_ok (h := ?_)
   refine amStr (h := ?_)
   refine amReg PT221_ok (h := ?_)
   refine amStr (h := ?_)
   refine amReg PT221_ok (h := ?_)
   refine amStr (h := ?_)
   refine s_weak (τ := ⟨121, [(2, aCls cl), (4, .ptr 0 0 0), (5, .ptr 1 0 0), (7, .ptr 2 0 0), (8, .v (.bool false)), (9, .ref 50 0 i), (10, .v (.int .i64 (i : Int))), (11, .ptr 57 0 0), (12, .v (.int .i64 ((ts.length : Int) - 1)))], [(57, ⟨37, 2, [[.v (.slice none 0 0), aInts cs]]⟩), (50, ⟨37, 2, T.map fun p => [aInts p.1, aInts p.2]⟩), (0, ⟨24, 2, [[.v (.int .i64 N), aRows L]]⟩), (1, ⟨28, 2, [[.v (.int .i64 M), aNds ns]]⟩), (2, ⟨37, 2, [[aInts ots, aInts ocs]]⟩)], [57, 50, 2, 1, 0]⟩) ?_ ?_
   ·(refine weak_id rfl ?_ ?_ <;> ((try simp only [List.mem_cons, List.not_mem_nil, or_false, forall_eq_or_imp, forall_eq]); (try simp (disch := omega) [i64w, *])))
    all_goals rfl
   refine s_cnil 57 0 0 60 3 1 rfl rfl (by simp) ?_ (by decide)
   (refine s_eq (τ := ?_) ?_ ?_; rotate_left; (focus ((try simp only [AS.frz, List.map_cons, List.map_nil]); (try simp [frzV, frzO, frzC, List.filter]); rfl)))
   refine s_loop (J := fun j : {j : Nat // j ≤ ts.length} => ⟨121, [(2, aCls cl), (4, .ptr 0 0 0), (5, .ptr 1 0 0), (7, .ptr 2 0 0), (8, .v (.bool false)), (9, .ref 50 0 i), (10, .v (.int .i64 (i : Int))), (11, .ptr 57 0 0), (12, .v (.int .i64 ((ts.length : Int) - 1 - (j.1 : Int))))], [(60, ⟨3, 1, (ts.reverse.take j.1).map fun x => [.v (.int .i64 x)]⟩), (57, ⟨37, 2, [[.ref 60 0 j.1, aInts cs]]⟩), (50, ⟨37, 2, T.map fun p => [aInts p.1, aInts p.2]⟩), (0, ⟨24, 2, [[.v (.int .i64 N), aRows L]]⟩), (1, ⟨28, 2, [[.v (.int .i64 M), aNds ns]]⟩), (2, ⟨37, 2, [[aInts ots, aInts ocs]]⟩)], [60, 57, 50, 2, 1, 0]⟩) (μ := fun j => ts.length - j.1) ⟨0, Nat.zero_le _⟩ ?_ (fun ⟨j, hj⟩ => ?_)
   ·have e0 : ts.reverse.take 0 = [] := rfl
    (refine weak_id rfl ?_ ?_ <;> ((try simp only [List.mem_cons, List.not_mem_nil, or_false, forall_eq_or_imp, forall_eq]); (try simp (disch := omega) [i64w, *])))
    all_goals first | rfl | trace_state
   dsimp only
   obtain ⟨D, hD⟩ : ∃ D, ts.reverse.take j = D := ⟨_, rfl⟩
   have hDl : D.length = j := by rw [← hD, List.length_take, List.length_reverse]; omega
   rw [hD]
   by_cases hjj : j < ts.length
   ·have hts2 : ts.reverse.take (j + 1) = D ++ [ts.reverse.getD j 0] := by
     have hl : j < ts.reverse.length := by rw [List.length_reverse]; exact hjj
     rw [List.take_succ_eq_append_getElem hl, hD]
     simp [List.getD, hjj]
    rw [← rev_get hjj] at hts2
    obtain ⟨m, hm1, hm2, hm3⟩ : ∃ m : Nat, (ts.length : Int) - 1 - (j : Int) = (m : Int) ∧ m < ts.length ∧ ts.length - 1 - j = m := ⟨ts.length - 1 - j, by omega, by omega, rfl⟩
    rw [hm3] at hts2
    rw [hm1]
    have hmi : (m : Int) < (ts.length : Int) := by omega
    have hw2 : IntKind.i64.wrap ((m : Int) - 1) = (ts.length : Int) - 1 - ((j + 1 : Nat) : Int) := by rw [i64w (by omega) (by omega)]; omega
    have hcap2 : (j + 1) * 8 ≤ 140737488355328 := by omega
    obtain ⟨y, hy⟩ : ∃ y, ts.getD m 0 = y := ⟨_, rfl⟩
    rw [hy] at hts2
    clear hm1 hm3 hD hcap
    unfold aCls
    refine amStr (h := ?_)
    refine amReg PT221_ok (h := ?_)
    refine amStr (h := ?_)
    refine amDrw PT221_ok (h := ?_)
    refine amStr (h := ?_)
    refine amReg PT221_ok (h := ?_)
    refine k_lp (⟨j + 1, hjj⟩ : {j : Nat // j ≤ ts.length}) (by dsimp only; omega) ?_
    (refine weak_of (fun k => if k = 60 then 72 else k) ⟨rfl, ?_, ?_, ?_⟩ <;> ((try simp only [List.mem_cons, List.not_mem_nil, or_false, forall_eq_or_imp, forall_eq]); (try simp (disch := omega) [lk, AV.ids, idsL, idsLL, AV.ren, renL, renLL, i64w, *])))
    all_goals first | rfl | trace_state
   ·obtain rfl : j = ts.length := by omega
    have hDr : D = ts.reverse := by rw [← hD]; exact List.take_of_length_le (by simp)
    rw [← hDr] at hts
    clear hD hDr
    have hrl : (ts.length : Int) - 1 - (ts.length : Int) = -1 := by omega
    rw [hrl]
    unfold aCls
    refine amStr (h := ?_)
    refine amReg PT221_ok (h := ?_)
    refine amStr (h := ?_)
    refine s_weak (τ := ⟨121, [(2, aCls cl), (4, .ptr 0 0 0), (5, .ptr 1 0 0), (7, .ptr 2 0 0), (8, .v (.bool false)), (9, .ref 50 0 i), (10, .v (.int .i64 (i : Int))), (11, .ptr 57 0 0)], [(60, ⟨3, 1, D.map fun x => [.v (.int .i64 x)]⟩), (57, ⟨37, 2, [[.ref 60 0 D.length, aInts cs]]⟩), (50, ⟨37, 2, T.map fun p => [aInts p.1, aInts p.2]⟩), (0, ⟨24, 2, [[.v (.int .i64 N), aRows L]]⟩), (1, ⟨28, 2, [[.v (.int .i64 M), aNds ns]]⟩), (2, ⟨37, 2, [[aInts ots, aInts ocs]]⟩)], [60, 57, 50, 2, 1, 0]⟩) ?_ ?_
    ·(refine weak_id rfl ?_ ?_ <;> ((try simp only [List.mem_cons, List.not_mem_nil, or_false, forall_eq_or_imp, forall_eq]); (try simp (disch := omega) [i64w, *])))
     all_goals first | rfl | trace_state
    clear hDl
    refine s_frz (fun k => k == 60) ?_
    (refine s_eq (τ := ?_) ?_ ?_; rotate_left; (focus ((try simp only [AS.frz, List.map_cons, List.map_nil]); (try simp [frzV, frzO, frzC, List.filter]); rfl)))
    refine amReg PT221_ok (h := ?_)
    refine amStr (h := ?_)
    refine amReg PT221_ok (h := ?_)
    refine k_lp (⟨i + 1, hii⟩ : {i : Nat // i ≤ cl.length}) (by dsimp only; omega) ?_
    (refine weak_of (fun k => if k = 50 then 64 else k) ⟨rfl, ?_, ?_, ?_⟩ <;> ((try simp only [List.mem_cons, List.not_mem_nil, or_false, forall_eq_or_imp, forall_eq]); (try simp (disch := omega) [lk, AV.ids, idsL, idsLL, AV.ren, renL, renLL, i64w, *])))
    all_goals first | rfl | trace_state
 ·obtain rfl : i = cl.length := by omega
  clear hc
  have htl := turnL_len ns cl (ots, ocs) cl.length
  have hok := HK.out
  have hV := HV.out
  obtain ⟨T, hT⟩ : ∃ T, turnL ns cl (ots, ocs) cl.length = T := ⟨_, rfl⟩
  rw [hT] at htl hok hV
  rw [hT]
  obtain ⟨⟨a, e⟩, hr⟩ : ∃ r, verV N L M ns cl = r := ⟨_, rfl⟩
  rw [hr] at hV
  have hV2 := hV.symm
  clear hV hT HK HV HLP
  refine amStr (h := ?_)
  refine s_weak (τ := ⟨121, [(2, aCls cl), (4, .ptr 0 0 0), (5, .ptr 1 0 0), (7, .ptr 2 0 0), (8, .v (.bool false)), (9, .ref 50 0 T.length)], [(50, ⟨37, 2, T.map fun p => [aInts p.1, aInts p.2]⟩), (0, ⟨24, 2, [[.v (.int .i64 N), aRows L]]⟩), (1, ⟨28, 2, [[.v (.int .i64 M), aNds ns]]⟩), (2, ⟨37, 2, [[aInts ots, aInts ocs]]⟩)], [50, 2, 1, 0]⟩) ?_ ?_
  ·(refine weak_id rfl ?_ ?_ <;> ((try simp only [List.mem_cons, List.not_mem_nil, or_false, forall_eq_or_imp, forall_eq]); (try simp (disch := omega) [i64w, *])))
   all_goals first | rfl | trace_state
  clear htl
  refine s_frz (fun k => k == 50) ?_
  (refine s_eq (τ := ?_) ?_ ?_; rotate_left; (focus ((try simp only [AS.frz, List.map_cons, List.map_nil]); (try simp [frzV, frzO, frzC, List.filter]); rfl)))
  unfold aNds aCls
  refine amGo PT221_ok (h := ?_)
  (refine amRt Tryz.results7 (h := ?_); try simp [*])
namespace verifyLocal
set_option maxRecDepth 100000
theorem contract (H : Type) (enc : TypeId × Value → H) (W : World) (base : Nat) (args : Array Value) (ds gs : List (DataW H)) (before : List MemPlace)
  (hval0 : ∀ (j : Nat) t v, (Go.Proofs.Tryz.f7).params[j]? = some t → args[j]? = some v → Value.okWide Tryz.prog W .any base t v)
  (hW : DataW.Whole enc Tryz.prog (Go.Proofs.Tryz.f7).params.toList Rows.verifyLocalSpec.vars false W args.toList ds gs before) (hL : laidMetH Tryz.prog Rows.verifyLocalRow.laid W) (hsz0 : (DataW.weightsEach Tryz.prog ((Go.Proofs.Tryz.f7).params.toList ++ []) (ds ++ gs)).all (· ≤ reachBytes) = true) :
  Calls Tryz.prog 7 args W fun e W' => ∃ v, e = .returned v ∧ Rows.verifyLocalSpec.post enc Tryz.prog Go.Proofs.Tryz.f7 false true false false W args v W' := by
 have hval : ∀ (j : Nat) t v, (Go.Proofs.Tryz.f7).params[j]? = some t → args[j]? = some v → Value.okWide Tryz.prog W .any base t v := hval0
 have hsz : (DataW.weightsEach Tryz.prog ((Go.Proofs.Tryz.f7).params.toList ++ []) (ds ++ gs)).all (· ≤ reachBytes) = true := hsz0
 have hW2 := hW
 obtain ⟨p, q, hA0, hV, _, _, _⟩ := hW
 have hA : DataW.TrodAll enc Tryz.prog W 0 (fun _ => true) true (Go.Proofs.Tryz.f7).params.toList args.toList ds p := hA0
 rw [Tryz.params7] at hA hval hsz
 clear hA0 hval0 hsz0
 obtain ⟨rfl, _⟩ := trodVars_none hV
 obtain ⟨v0, vs0, d0, ds0, p0, q0, hargs, rfl, _, h0, r0⟩ := trodAll_cons hA
 obtain ⟨v1, vs1, d1, ds1, p1, q1, rfl, rfl, _, h1, r1⟩ := trodAll_cons r0
 obtain ⟨v2, vs2, d2, ds2, p2, q2, rfl, rfl, _, h2, r2⟩ := trodAll_cons r1
 obtain ⟨v3, vs3, d3, ds3, p3, q3, rfl, rfl, _, h3, r3⟩ := trodAll_cons r2
 obtain ⟨rfl, rfl, _⟩ := trodAll_nil r3
 obtain rfl : args = #[v0, v1, v2, v3] := by cases args; simp_all
 obtain ⟨N, L, ra0, oN0, oL0⟩ := argZ_th (hval 0 _ v0 rfl rfl) h0 (sized_at hsz (j := 0) rfl rfl)
 obtain ⟨M, ns, ra1, oN1, oL1⟩ := argZ_net (hval 1 _ v1 rfl rfl) h1 (sized_at hsz (j := 1) rfl rfl)
 obtain ⟨cl, ra2, oL2⟩ := argZ_cls (hval 2 _ v2 rfl rfl) h2 (sized_at hsz (j := 2) rfl rfl)
 obtain ⟨ots, ocs, ra3, oN3, oL3⟩ := argZ_cl (hval 3 _ v3 rfl rfl) h3 (sized_at hsz (j := 3) rfl rfl)
 refine law_of_pure (glob_of_laid hL) (avs := [.agg [.v (.int .i64 N), aRows L], aNet M ns, aCls cl, .agg [aInts ots, aInts ocs]]) (by kernel_rfl) hW2 rfl (rec_ok (by kernel_rfl)) (tb := 4) rfl Tryz.underlying4 rfl rfl rfl rfl (fun i hi => ?_) (verifyLocal_p N L M ns cl ots ocs oN0 oL0 oN1 oL1 oL2 oN3 oL3)
 match i, hi with
 | 0, _ => exact ra0
 | 1, _ => exact ra1
 | 2, _ => exact ra2
 | 3, _ => exact ra3
theorem laid_met (os : Os) : laidMet Tryz.prog Rows.verifyLocalRow.laid ((laidWorld os).forCall (fun _ _ => 0) ⟨#[], #[.agg #[.int .i64 0, .slice none 0 0], .agg #[.int .i64 0, .slice none 0 0], .slice none 0 0, .agg #[.slice none 0 0, .slice none 0 0]], []⟩).memory :=
 laidMet_of_run' 8 (by kernel_rfl) (by kernel_rfl)
theorem lifted (os : Os) (started : os.Started) (H : Type) (enc : TypeId × Value → H) (F : Stop.Interp) :
  ReturnsInHanded {} Tryz.checked os 7 .any ((OpenSpec.ofChange Rows.verifyLocalSpec).preRow enc Tryz.prog Go.Proofs.Tryz.f7 Rows.verifyLocalRow.domain false Rows.verifyLocalRow.laid) (((OpenSpec.ofChange Rows.verifyLocalSpec).at F).post enc Tryz.prog Go.Proofs.Tryz.f7 false true false false) := by
 refine returnsInHanded_of_row (C := Tryz.checked) (s := OpenSpec.ofChange Rows.verifyLocalSpec) (by kernel_rfl) started (by kernel_rfl) Tryz.func7
  (witness_row_at (enc := enc) (C := Tryz.checked) false (laidWorld os) #[.agg #[.int .i64 0, .slice none 0 0], .agg #[.int .i64 0, .slice none 0 0], .slice none 0 0, .agg #[.slice none 0 0, .slice none 0 0]] rfl (by kernel_rfl) (by kernel_rfl) (by kernel_rfl)
   (OpenSpec.preRow_of_cond 8 (show DataW.whole enc Tryz.prog ((laidWorld os).forCall (fun _ _ => 0) ⟨#[], #[.agg #[.int .i64 0, .slice none 0 0], .agg #[.int .i64 0, .slice none 0 0], .slice none 0 0, .agg #[.slice none 0 0, .slice none 0 0]], []⟩).memory (Go.Proofs.Tryz.f7).params.toList Rows.verifyLocalSpec.vars false (#[.agg #[.int .i64 0, .slice none 0 0], .agg #[.int .i64 0, .slice none 0 0], .slice none 0 0, .agg #[.slice none 0 0, .slice none 0 0]] : Array Value).toList 8 = some ([.agg [.lit (.int .i64 0), .nil], .agg [.lit (.int .i64 0), .nil], .nil, .agg [.nil, .nil]], [], []) by kernel_rfl) (by kernel_rfl) (fun k hk => by cases hk) (by kernel_rfl) (laid_met os))) ?_
 intro W base args ds gs before hval hW _ _ hsz hL _ _
 exact contract H enc W base args ds gs before hval hW hL hsz
theorem said : Rows.VerifyLocalSaid :=
 OpenClaim.holds_of_cond 7 Go.Proofs.Tryz.f7 rfl rfl rfl rfl rfl rfl rfl ⟨rfl, rfl, rfl, rfl, rfl⟩ rfl rfl rfl rfl rfl (by kernel_rfl) Tryz.func7 (by kernel_rfl)
  (of_decide_eq_true (by kernel_rfl)) (by unfold Func.isWrapper; first | (rw [if_pos (by decide +kernel)]; kernel_rfl) | (rw [if_neg (by decide +kernel)]; exact ⟨rfl, rfl⟩))
  (fun os started H enc _ F => by rw [OpenClaim.pre_eq_preRow]; exact lifted os started H enc F)
theorem plain (f : FuncId) (fn : Func) (hf : Tryz.pinned.checked.prog.funcNamed "census/censuslaw23.VerifyLocal" = some f) (hfn : Tryz.pinned.checked.prog.funcs[f]? = some fn) :
  false = Tryz.pinned.checked.prog.looks [] ∧ ∀ (j : Nat) t, fn.params[j]? = some t → Tryz.pinned.checked.prog.wantsStandIn t = false := by
 obtain rfl : f = 7 := Option.some.inj ((show Tryz.prog.funcNamed "census/censuslaw23.VerifyLocal" = some 7 by kernel_rfl).symm.trans hf) |>.symm
 obtain rfl : fn = Go.Proofs.Tryz.f7 := (Option.some.inj (Tryz.func7.symm.trans hfn)).symm
 refine ⟨by kernel_rfl, fun j t ht => ?_⟩
 rw [Tryz.params7] at ht
 have hall : (Tryz.checked.prog.funcs[7]?).all (fun g => g.params.toList.all fun t => !(Tryz.checked.prog.wantsStandIn t)) = true := by kernel_rfl
 rw [show Tryz.checked.prog.funcs[7]? = some Go.Proofs.Tryz.f7 from Tryz.func7] at hall
 have h2 : ∀ t ∈ (Go.Proofs.Tryz.f7).params.toList, (!(Tryz.checked.prog.wantsStandIn t)) = true := List.all_eq_true.1 hall
 have hm : t ∈ (Go.Proofs.Tryz.f7).params.toList := by rw [Tryz.params7]; exact Array.mem_toList_iff.2 (Array.mem_of_getElem? ht)
 have h3 : Tryz.checked.prog.wantsStandIn t = false := by simpa using h2 t hm
 exact h3
theorem proved : Rows.VerifyLocalCardSaid :=
 Claim7.holds_tied_plain_at .later [] _ _ _ _ said (fun _ h => by cases h) (by kernel_rfl) (fun _ h => by cases h) verifyLocal_row_tie rfl ⟨rfl, rfl⟩ (by kernel_rfl) rfl plain (by kernel_rfl)
end verifyLocal
end Go.Proofs.YtllkogdgmmcfgaaGreatDoor
