/- parts.Alone as a function that returns rows of its own; no condition. -/
import Derived.Test.YtekeidhndlnghaaRo16
import Derived.Test.YtekeidhndlnghaaWa
import Derived.Test.YtekeidhndlnghaaObP
import Derived.Test.YtekeidhndlnghaaSpo
import Derived.Test.YtekeidhndlnghaaJf
import Derived.Test.YtekeidhndlnghaaNil
namespace Go.Proofs.Ytekeidhndlnghaa
set_option linter.unusedVariables false
set_option linter.unusedSimpArgs false
set_option linter.unusedSectionVars false
open Go.RowKit
attribute [local simp] List.getD_cons_zero List.getD_cons_succ List.getD_nil undef gvars runL runE effA stepA dstOk wantA core lk st dl AS.ev AS.evs AS.put AS.upd updO updI nxt cPick cAlloc cBox cBuild cBuildS cLoad cStore cNil plainOf cBin cNilS isNilS nilA cUn cConvX cConvB cConv bytesOf rowB cMake cSlice slA idxA cFA cF cIA cIX cIS cI cExt cLen cApp cMM cFun cCall lenA lenM isNilM nilM cNilM cMakeM hintB cMapK cLook foundR lookR cUpd putM cDel delM findA isKeyB Instr.sameNow AS.entry AS.bound AS.callee sc1 sc2 ixOk ldA AV.flat AV.cell AV.cells Value.oneCell' fillA spl chunk zeros AS.parts AS.rows AS.shut AS.shut1 AS.shut2 AS.shutL AS.shutM AV.ids idsL idsLL eqAll bndA AV.scalar AV.scalar1 AV.isV Ef.app Ef.pk ptOf pntO wrO wr
attribute [-simp] List.getD_eq_getElem?_getD
set_option maxRecDepth 100000
attribute [local simp] AV.ren renL obI shO_cons lk_st lk_dl renLL_append
def alnL (L : List (List Int)) (ts cs : List Int) : List (List Int) := cs.map fun i => restL (L.getD i.toNat []) ts
theorem alnL_len (L : List (List Int)) (ts cs : List Int) : (alnL L ts cs).length = cs.length := by simp [alnL]
theorem alnL_succ (L : List (List Int)) (ts : List Int) {cs : List Int} {k : Nat} (hk : k < cs.length) : alnL L ts (cs.take (k + 1)) = alnL L ts (cs.take k) ++ [restL (L.getD (cs.getD k 0).toNat []) ts] := by
  have e : cs.getD k 0 = cs[k] := by simp [List.getD, hk]
  unfold alnL
  rw [List.take_succ_eq_append_getElem hk, List.map_append, e]; rfl
def aPart (s : BitVec 128) (cs : List Int) : AV := .agg [.v (.int .u64 ((lo s).toNat : Int)), .v (.int .u64 ((hi s).toNat : Int)), aInts cs]
def alnB (L : List (List Int)) (ts cs : List Int) : Bool := cs.all fun i => decide (0 ≤ i) && decide (i < L.length) && leftL (L.getD i.toNat []) ts
set_option maxHeartbeats 4000000 in
theorem alone_obj (N : Int) (L : List (List Int)) (ts xs cs : List Int) (s : BitVec 128) (hN : okI N = true) (hL : okRows L = true) (ht : okInts ts = true) (hx : okInts xs = true) (hcs : okInts cs = true) (hc4 : cs.length ≤ 4096) (hck : chkL N L ts = some xs) (hz : checkT N L = 0) (hg : alnB L xs cs = true) :
    FnObj Try.prog 17 [aTh N L, aInts ts, aPart s cs] (resT N (alnL L xs cs)) (objT (alnL L xs cs)) (idsT (alnL L xs cs)) := by
  have hca : chkA N L ts = .tup [aInts xs, .v (.int .i64 0)] := by unfold chkA; rw [hck]
  have hxn := okInts_len hx
  have hcn := okInts_len hcs
  obtain ⟨n0, n1, l4, hl3⟩ := checkT_ok hz
  unfold aTh aPart
  refine fn_obj TT_ok Try.func17 (c := _) rfl (by simp [Try.ntmps17]) (within_T _ fun k hk => by simpa [resT, AV.ids, idsL] using hk) (fun B hI0 hro => ?_)
  rw [Try.ntmps17]
  simp only [enumA]
  refine amGo PT86_ok (h := ?_)
  refine s_cnil 6 0 1 40 25 1 rfl rfl (by simp) ?_ (by decide)
  (refine s_eq (τ := ?_) ?_ ?_; rotate_left; (focus ((try simp only [AS.frz, List.map_cons, List.map_nil]); (try simp [frzV, frzO, frzC, List.filter]); rfl)))
  refine s_loop (J := fun i : {k : Nat // k ≤ cs.length} => ⟨65, [(1, aInts xs), (3, .ptr 0 0 0), (6, .ptr 2 0 0), (7, .v (.int .i64 0)), (9, .ptr 6 0 0), (28, aInts cs), (29, .v (.int .i64 (cs.length : Int))), (30, .v (.int .i64 (i.1 : Int)))], [(40, ⟨25, 1, refsI 1000 (alnL L xs (cs.take i.1))⟩), (0, ⟨24, 2, [[.v (.int .i64 N), aRows L]]⟩), (2, ⟨24, 2, [[.v (.int .i64 0), .v (.slice none 0 0)]]⟩), (6, ⟨24, 2, [[.v (.int .i64 N), .ref 40 0 i.1]]⟩)] ++ fam 1000 (alnL L xs (cs.take i.1)), [40, 6, 2, 0] ++ List.range' 1000 (alnL L xs (cs.take i.1)).length⟩) (μ := fun i => cs.length - i.1) ⟨0, Nat.zero_le _⟩ ?_ (fun ⟨k, hk⟩ => ?_)
  · have hk0 : alnL L xs [] = [] := rfl
    have hr0 : refsI 1000 [] = [] := rfl
    (refine weak_fam (fun k => k) rfl ?_ ?_ ?_ ?_ ?_ ?_ <;> ((try simp only [List.mem_cons, List.not_mem_nil, or_false, forall_eq_or_imp, forall_eq]); (try simp (disch := omega) [lk, AV.ids, idsL, idsLL, AV.ren, renL, renLL, i64w, *])))
  have hkl : (alnL L xs (cs.take k)).length = k := by rw [alnL_len, List.length_take]; omega
  have c1 : (k + 1) * 24 ≤ 140737488355328 := by omega
  have hril := refsI_len 1000 (alnL L xs (cs.take k))
  have hwk : IntKind.i64.wrap ((k : Int) + 1) = (k : Int) + 1 := i64s k (by omega)
  refine amStr (h := ?_)
  refine amReg PT86_ok (h := ?_)
  refine amStr (h := ?_)
  (focus ((with_reducible refine sp_cond (b := ?_) ?_ (fun hc => ?_) (fun hc => ?_)); rotate_left; (focus (first | rfl | (simp [lk, AS.ev]; rfl))); all_goals (try simp at hc)))
  · have hkk := hc
    clear hc
    have hts := alnL_succ L xs (cs := cs) (k := k) hkk
    have hgx := List.all_eq_true.1 hg _ (getD_memI hkk)
    obtain ⟨x, hxe⟩ : ∃ x, cs.getD k 0 = x := ⟨_, rfl⟩
    rw [hxe] at hgx hts
    simp only [Bool.and_eq_true, decide_eq_true_eq] at hgx
    obtain ⟨⟨x0, x1⟩, hlf⟩ := hgx
    have hci := okRows_at hL x.toNat
    have hlc := hl3 _ (getD_memL (k := x.toNat) (by omega))
    have hokc : okL (L.getD x.toNat []) = true := okL_iff.2 fun y hy => by have := litOk_range (hlc.2 y hy); omega
    have hro2 := rest_obj _ xs hci hx hokc hlf
    have hmx : max x 0 = x := by omega
    have hnx : ¬ (x < 0) := by omega
    have hnl : ¬ ((L.length : Int) ≤ x) := by omega
    have hx2 : x.toNat < L.length := by omega
    have hxi : okI x = true := okI_iff.2 ⟨by omega, by omega⟩
    obtain ⟨c, hcc⟩ : ∃ c, L.getD x.toNat [] = c := ⟨_, rfl⟩
    rw [hcc] at hro2 hts hci
    obtain ⟨y, hy⟩ : ∃ y, restL c xs = y := ⟨_, rfl⟩
    rw [hy] at hro2 hts
    clear hlc hlf hokc
    obtain ⟨M, hM⟩ : ∃ M, alnL L xs (cs.take k) = M := ⟨_, rfl⟩
    rw [hM] at hkl hril hts
    rw [hM]
    refine amStr (h := ?_)
    refine amReg PT86_ok (h := ?_)
    refine amStr (h := ?_)
    refine amReg PT86_ok (h := ?_)
    refine amStr (h := ?_)
    refine s_regionL ?_
    ((iterate 6 (((with_reducible refine spl_step TT_ok PT86_ok (id := 0) (σ' := ?_) ?_ ?_); rotate_left; (focus (simp [*]; rfl))))))
    refine spl_obj hro2 44 (by simp; try omega) rfl rfl (enters_ok (avs := [aInts c, aInts xs]) (cs := []) rfl (by kernel_rfl) rfl rfl) (by simp [idsL, AV.ids]) (fun c h => by cases h) ?_
    simp only [shO_cons, List.map_cons, List.cons_append]
    (refine spl_eq (τ := ?_) ?_ ?_; rotate_left; (focus ((try simp only [AS.frz, List.map_cons, List.map_nil]); (try simp [frzV, frzO, frzC, List.filter]); rfl)))
    ((iterate 5 (((with_reducible refine spl_step TT_ok PT86_ok (id := 0) (σ' := ?_) ?_ ?_); rotate_left; (focus (simp [*]; rfl))))))
    refine spl_nil ?_
    refine amStr (h := ?_)
    refine amReg PT86_ok (h := ?_)
    refine amStr (h := ?_)
    refine s_regionL ?_
    ((iterate 3 (((with_reducible refine spl_step TT_ok PT86_ok (id := 0) (σ' := ?_) ?_ ?_); rotate_left; (focus (simp [*]; rfl))))))
    (((with_reducible refine spl_step TT_ok PT86_ok (id := 46) (σ' := ?_) ?_ ?_); rotate_left; (focus (simp [*]; rfl))))
    (((with_reducible refine spl_step TT_ok PT86_ok (id := 47) (σ' := ?_) ?_ ?_); rotate_left; (focus (simp [*]; rfl))))
    ((iterate 2 (((with_reducible refine spl_step TT_ok PT86_ok (id := 0) (σ' := ?_) ?_ ?_); rotate_left; (focus (simp [*]; rfl))))))
    refine spl_nil ?_
    refine amStr (h := ?_)
    refine amReg PT86_ok (h := ?_)
    refine amStr (h := ?_)
    refine k_lp (⟨k + 1, by omega⟩ : {k : Nat // k ≤ cs.length}) (by dsimp only; omega) ?_
    simp only [hts]
    have hnlt : ∀ j : Nat, ¬ (1000 + j < 1000) := fun j => by omega
    have hsn := refsI_snoc 1000 M y
    rw [hkl] at hsn
    have hre := ren_refsI (fun q => if q < 1000 then (if q = 40 then 47 else q) else if q = 1000 + k then 44 else q) 1000 1000 M _ rfl (fun j hj => by rw [if_neg (by omega), if_neg (by omega)]) (fun _ _ => rfl)
    show Weak _ ⟨65, [(1, aInts xs), (3, .ptr 0 0 0), (6, .ptr 2 0 0), (7, .v (.int .i64 0)), (9, .ptr 6 0 0), (28, aInts cs), (29, .v (.int .i64 (cs.length : Int))), (30, .v (.int .i64 ((k + 1 : Nat) : Int)))], [(40, ⟨25, 1, refsI 1000 (M ++ [y])⟩), (0, ⟨24, 2, [[.v (.int .i64 N), aRows L]]⟩), (2, ⟨24, 2, [[.v (.int .i64 0), .v (.slice none 0 0)]]⟩), (6, ⟨24, 2, [[.v (.int .i64 N), .ref 40 0 (k + 1)]]⟩)] ++ fam 1000 (M ++ [y]), [40, 6, 2, 0] ++ List.range' 1000 (M ++ [y]).length⟩
    (refine weak_fam (fun q => if q < 1000 then (if q = 40 then 47 else q) else if q = 1000 + k then 44 else q) rfl ?_ ?_ ?_ ?_ ?_ ?_ <;> ((try simp only [List.mem_cons, List.not_mem_nil, or_false, forall_eq_or_imp, forall_eq]); (try simp (disch := omega) [lk, AV.ids, idsL, idsLL, AV.ren, renL, renLL, i64w, *])))
    · intro q hq
      rcases hq with hq | rfl
      · have := ids_refsI _ _ hq
        exact .inr ⟨by omega, by omega⟩
      · exact .inr ⟨by omega, by omega⟩
    · intro i hi
      by_cases e : i = k
      · subst e
        simp [List.getD, hkl]
      · simp only [if_neg e]
        rw [if_neg (fun h => by have := h e; omega)]
        repeat rw [if_neg (by omega)]
        rw [lk_fam_add (by omega)]
        simp [List.getD, List.getElem?_append_left (show i < M.length by omega), obI]
    · intro j hj i hi e
      split at e <;> split at e <;> omega
    · repeat' apply And.intro
      all_goals (intro j hj; split <;> omega)
  · obtain rfl : k = cs.length := by omega
    clear hc hwk c1
    rw [List.take_length] at hkl hril ⊢
    refine amStr (h := ?_)
    refine amReg PT86_ok (h := ?_)
    refine amStr (h := ?_)
    refine post_T (o := 40) (b := 1000) (.inr rfl) (by rw [Try.results17]) ?_ rfl (fun j hj => ?_) (by omega)
    · simp [retA, retL, ret1, lk, ldA, AV.cell, alnL_len]
    · simp only [lk]
      repeat rw [if_neg (by omega)]
      exact lk_fam_add hj
end Go.Proofs.Ytekeidhndlnghaa
