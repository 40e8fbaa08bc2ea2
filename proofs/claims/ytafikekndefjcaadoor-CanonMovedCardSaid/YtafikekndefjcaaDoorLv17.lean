/- The law CanonMoved, by the abstract machine; no condition. -/
import Derived.Test.YtafikekndefjcaaDoorLt17
import Derived.Test.YtafikekndefjcaaDoorWa
import Derived.Test.YtafikekndefjcaaDoorSp2
import Derived.Test.YtafikekndefjcaaDoorLy17
namespace Go.Proofs.YtafikekndefjcaaDoor
set_option linter.unusedVariables false
set_option linter.unusedSimpArgs false
set_option linter.unusedSectionVars false
open Go.ChangeShapes Go.WideShapes Go.ChangeAt Go.RowKit
attribute [local simp] List.getD_cons_zero List.getD_cons_succ List.getD_nil undef gvars runL runE effA stepA dstOk wantA core lk st dl AS.ev AS.evs AS.put AS.upd updO updI nxt cPick cAlloc cBox cBuild cBuildS cLoad cStore cNil plainOf cBin cNilS isNilS nilA cUn cConvX cConvB cConv bytesOf rowB cMake cSlice slA idxA cFA cF cIA cIX cIS cI cExt cLen cApp cMM cFun cCall lenA lenM isNilM nilM cNilM cMakeM hintB cMapK cLook foundR lookR cUpd putM cDel delM findA isKeyB Instr.sameNow AS.entry AS.bound AS.callee sc1 sc2 ixOk ldA AV.flat AV.cell AV.cells Value.oneCell' fillA spl chunk zeros AS.parts AS.rows AS.shut AS.shut1 AS.shut2 AS.shutL AS.shutM AV.ids idsL idsLL eqAll bndA AV.scalar AV.scalar1 AV.isV Ef.app Ef.pk ptOf pntO wrO wr
attribute [-simp] List.getD_eq_getElem?_getD
set_option maxRecDepth 100000
attribute [local simp] ids_bytes ren_bytes renLL_append
def toL (gaps : List Int) (q k : Nat) : List Int := (List.range (q + 1)).map fun j => if j ≤ k then toN gaps j else 0
theorem toL_len (gaps : List Int) (q k : Nat) : (toL gaps q k).length = q + 1 := by simp [toL]
theorem toL_get (gaps : List Int) {q k j : Nat} (hj : j ≤ k) (hq : j ≤ q) : (toL gaps q k).getD j 0 = toN gaps j := by
  simp [toL, List.getD, show j < q + 1 by omega, hj]
theorem toL_set (gaps : List Int) {q k : Nat} (hq : k + 1 ≤ q) : (toL gaps q k).set (k + 1) (toN gaps (k + 1)) = toL gaps q (k + 1) := by
  refine List.ext_getElem (by simp [toL]) fun i h1 h2 => ?_
  rw [toL_len] at h2
  rw [List.getElem_set]
  simp only [toL, List.getElem_map, List.getElem_range]
  by_cases e : k + 1 = i
  · subst e; simp
  · rw [if_neg e]
    by_cases h : i ≤ k
    · rw [if_pos h, if_pos (by omega)]
    · rw [if_neg h, if_neg (by omega)]
theorem toL_zero (gaps : List Int) (q : Nat) : toL gaps q 0 = List.replicate (q + 1) 0 := by
  refine List.ext_getElem (by simp [toL]) fun i h1 h2 => ?_
  simp only [toL, List.getElem_map, List.getElem_range, List.getElem_replicate]
  by_cases h : i ≤ 0
  · obtain rfl : i = 0 := by omega
    simp [toN]
  · rw [if_neg h]
theorem movK_succ (gaps : List Int) (L : List (List Int)) (turn k : Nat) : movK gaps L turn (k + 1) = movK gaps L turn k ++ [(L.getD ((k + turn) % L.length) []).map (renl fun v => toN gaps v.toNat)] := by
  unfold movK; rw [List.range_succ, List.map_append]; rfl
theorem movK_len (gaps : List Int) (L : List (List Int)) (turn k : Nat) : (movK gaps L turn k).length = k := by simp [movK]
set_option maxHeartbeats 4000000 in
theorem moved_ok (N : Int) (L : List (List Int)) (n : Int) (gaps : List Int) (turn : Int) (hN : okI N = true) (hL : okRows L = true) (hl : lightB L = true) (hn0 : 0 ≤ n) (hn1 : n ≤ 255) (hg : okB gaps = true) (hgl : gaps.length ≤ 9223372036854775807) (ht0 : 0 ≤ turn) (ht1 : turn ≤ 255) :
    FnPure Tryd.prog 5 [aTh N L, .v (.int .u8 n), aB gaps, .v (.int .u8 turn)] (.v (.bool true)) := by
  have hLl := okLens_rows hL
  obtain ⟨q0, hq0⟩ : ∃ q, n.tmod 13 = q := ⟨_, rfl⟩
  have q1 : 0 ≤ q0 ∧ q0 < 13 := by rw [← hq0, Int.tmod_eq_emod_of_nonneg hn0]; omega
  obtain ⟨q, rfl⟩ := Int.eq_ofNat_of_zero_le q1.1
  have hq12 : q ≤ 12 := by omega
  have hqw : IntKind.i64.wrap (q : Int) = q := i64w (by omega) (by omega)
  have hqw1 : IntKind.i64.wrap ((q : Int) + 1) = (q : Int) + 1 := i64w (by omega) (by omega)
  have hqo : okI (q : Int) = true := okI_iff.2 ⟨by omega, by omega⟩
  have h60 : L.length ≤ 60 := by
    simp only [lightB, Bool.and_eq_true, decide_eq_true_eq] at hl
    exact hl.2
  have hfo : fewOk (q : Int) L = true := fewOk_iff.2 ⟨h60, by omega, by omega⟩
  have hz := fewT_check (n := (q : Int)) (L := L) (by omega) (by omega) (by omega)
  have hT60 : (fewT (q : Int) L).length ≤ 60 := by unfold fewT; simpa using h60
  obtain ⟨turnN, rfl⟩ := Int.eq_ofNat_of_zero_le ht0
  obtain ⟨hz2, hU2, hN2⟩ := mov_law gaps turnN (show (q : Int) ≤ 12 by omega) hz
  have hz3 := small_check (normL_check hz)
  have hsA : smallA (q : Int) (fewT (q : Int) L) = .tup [.agg [.v (.int .i64 ((smallN (normL (fewT (q : Int) L))).length : Int)), aRows (smallL (normL (fewT (q : Int) L)))], aInts (smallN (normL (fewT (q : Int) L))), .v (.int .i64 0)] := by unfold smallA; rw [if_pos hz]; rfl
  have hkA : keyA (q : Int) (fewT (q : Int) L) = .tup [aB (keyL (smallL (normL (fewT (q : Int) L)))), .v (.int .i64 0)] := by unfold keyA; rw [if_pos hz]
  have hsB : smallA 128 (movK gaps (fewT (q : Int) L) turnN (fewT (q : Int) L).length) = .tup [.agg [.v (.int .i64 ((smallN (normL (fewT (q : Int) L))).length : Int)), aRows (smallL (normL (fewT (q : Int) L)))], aInts ((smallN (normL (fewT (q : Int) L))).map fun v => toN gaps v.toNat), .v (.int .i64 0)] := by unfold smallA; rw [if_pos hz2, hU2, hN2, List.length_map]; rfl
  have hkB : keyA 128 (movK gaps (fewT (q : Int) L) turnN (fewT (q : Int) L).length) = .tup [aB (keyL (smallL (normL (fewT (q : Int) L)))), .v (.int .i64 0)] := by unfold keyA; rw [if_pos hz2, hU2]
  have hnl0 : (smallN (normL (fewT (q : Int) L))).length ≤ 128 := names_len (names_listS _)
  have hRT := okRows_check hz
  have hRM := okRows_check hz2
  have hRU := okRows_check hz3
  have hKb := okB_check hz3
  have hnm : ∀ v ∈ smallN (normL (fewT (q : Int) L)), 1 ≤ v ∧ v ≤ (q : Int) := fun v hv => by
    obtain ⟨h1, c, hc, l, hl, rfl⟩ := (sHas_varsT _ v).1 ((listS_mem _ _).1 hv)
    have := litVar_abs (((checkT_ok (normL_check hz)).2.2.2 c hc).2 l hl)
    omega
  obtain ⟨_, _, _, hlits⟩ := checkT_ok hz
  clear hz2 hU2 hN2 h60 hz3
  obtain ⟨T, hT⟩ : ∃ T, fewT (q : Int) L = T := ⟨_, rfl⟩
  rw [hT] at hnl0 hT60 hsA hkA hsB hkB hRT hRM hRU hKb hnm hlits
  generalize smallL (normL T) = U at *
  generalize smallN (normL T) = names at *
  obtain ⟨KU, hKU⟩ : ∃ KU, keyL U = KU := ⟨_, rfl⟩
  rw [hKU] at hkA hkB hKb
  clear hKU hz
  obtain ⟨f, hf⟩ : ∃ f : Int → Int, (renl fun v => toN gaps v.toNat) = f := ⟨_, rfl⟩
  obtain ⟨p, hp⟩ : ∃ p : Int → Int, (fun v : Int => toN gaps v.toNat) = p := ⟨_, rfl⟩
  rw [hp] at hsB
  obtain ⟨turn, hturn⟩ : ∃ turn : Int, (turnN : Int) = turn := ⟨_, rfl⟩
  have htw : IntKind.i64.wrap turn = turn := i64w (by omega) (by omega)
  rw [hturn]
  have hgr : ∀ k, k < gaps.length → 0 ≤ gaps.getD k 0 ∧ gaps.getD k 0 < 256 := fun k hk => by
    have := List.all_eq_true.1 hg _ (getD_memI hk)
    simpa using this
  have hself : thSame (names.length : Int) U (names.length : Int) U = true := by simp [thSame]
  unfold aTh
  rw [show aB gaps = .sl 1 (gaps.map fun x => [.v (.int .u8 x)]) from rfl]
  have hfe : aTh (q : Int) T = .agg [.v (.int .i64 (q : Int)), aRows T] := rfl
  refine fn_sp TT_ok Tryd.func5 (c := _) rfl (by simp [Tryd.ntmps5]) (fun B hI0 hro => ?_)
  rw [Tryd.ntmps5]
  simp only [enumA]
  refine amGo PT84_ok (h := ?_)
  have m0 : (0 : Int) ≤ (q : Int) + 1 := by omega
  have m1 : 8 * ((q : Int) + 1) ≤ 281474976710656 := by omega
  have m2 : (q : Int) + 1 ≤ 9223372036854775807 := by omega
  have m3 : (q : Int) ≤ 9223372036854775806 := by omega
  refine s_regionL ?_
  ((iterate 3 (((with_reducible refine spl_step TT_ok PT84_ok (id := 0) (σ' := ?_) ?_ ?_); rotate_left; (focus (simp [*]; rfl))))))
  (((with_reducible refine spl_step TT_ok PT84_ok (id := 40) (σ' := ?_) ?_ ?_); rotate_left; (focus (simp [*]; rfl))))
  ((iterate 1 (((with_reducible refine spl_step TT_ok PT84_ok (id := 0) (σ' := ?_) ?_ ?_); rotate_left; (focus (simp [*]; rfl))))))
  refine spl_nil ?_
  refine amStr (h := ?_)
  refine amReg PT84_ok (h := ?_)
  refine amStr (h := ?_)
  have hzl := toL_zero gaps q
  refine s_loop (J := fun k : {k : Nat // k ≤ q} => ⟨188, [(2, .sl 1 (gaps.map fun x => [.v (.int .u8 x)])), (3, .v (.int .u8 turn)), (4, .ptr 0 0 0), (8, .v (.bool false)), (9, .ref 40 0 (q + 1)), (10, .v (.int .i64 ((k.1 : Int) + 1)))], [(40, ⟨3, 1, (toL gaps q k.1).map fun x => [.v (.int .i64 x)]⟩), (0, ⟨24, 2, [[.v (.int .i64 (q : Int)), aRows T]]⟩)], [40, 0]⟩) (μ := fun k => q - k.1) ⟨0, Nat.zero_le _⟩ ?_ (fun ⟨k, hk⟩ => ?_)
  · (refine weak_id rfl ?_ ?_ <;> ((try simp only [List.mem_cons, List.not_mem_nil, or_false, forall_eq_or_imp, forall_eq]); (try simp (disch := omega) [i64w, *])))
    intro z hz
    have : idsLL (List.replicate (q + 1) [AV.v (.int .i64 0)]) = [] := by
      have e : List.replicate (q + 1) [AV.v (.int .i64 0)] = (List.replicate (q + 1) (0 : Int)).map fun x => [AV.v (.int .i64 x)] := by simp
      rw [e]; exact ids_ints _
    rw [this] at hz; cases hz
  clear hzl m0 m1 m2 m3
  have hll := toL_len gaps q k
  have hw1 : IntKind.i64.wrap ((k : Int) + 1 + 1) = (k : Int) + 1 + 1 := i64w (by omega) (by omega)
  have hw0 : IntKind.i64.wrap (k : Int) = (k : Int) := i64n k (by omega)
  refine amGo PT84_ok (h := ?_)
  (focus ((with_reducible refine sp_cond (b := ?_) ?_ (fun hc => ?_) (fun hc => ?_)); rotate_left; (focus (first | rfl | (simp [lk, AS.ev]; rfl))); all_goals (try simp at hc)))
  · have hkk : k < q := by omega
    have hkq : k + 1 < q + 1 := by omega
    have hki : (k : Int) < (q : Int) + 1 := by omega
    have hki1 : (k : Int) + 1 < (q : Int) + 1 := by omega
    have hk0 : (0 : Int) ≤ (k : Int) + 1 := by omega
    have hkk1 : k < q + 1 := by omega
    clear hc
    have hget := toL_get gaps (q := q) (k := k) (j := k) (Nat.le_refl _) (by omega)
    have hset := toL_set gaps (q := q) (k := k) (by omega)
    have htn : toN gaps (k + 1) = toN gaps k + 1 + if k < gaps.length then (gaps.getD k 0) % 9 else 0 := rfl
    have htb := toN_le gaps k
    rw [htn] at hset
    clear htn
    obtain ⟨X, hX⟩ : ∃ X, toL gaps q k = X := ⟨_, rfl⟩
    obtain ⟨t0, ht0e⟩ : ∃ t0, toN gaps k = t0 := ⟨_, rfl⟩
    rw [hX] at hll hget hset ⊢
    rw [ht0e] at hget hset htb
    have hwt : IntKind.i64.wrap (t0 + 1) = t0 + 1 := i64w (by omega) (by omega)
    refine amStr (h := ?_)
    refine s_regionL ?_
    ((iterate 10 (((with_reducible refine spl_step TT_ok PT84_ok (id := 0) (σ' := ?_) ?_ ?_); rotate_left; (focus (simp [*]; rfl))))))
    refine spl_nil ?_
    refine amStr (h := ?_)
    refine s_weak ⟨188, [(2, .sl 1 (gaps.map fun x => [.v (.int .u8 x)])), (3, .v (.int .u8 turn)), (4, .ptr 0 0 0), (8, .v (.bool false)), (9, .ref 40 0 (q + 1)), (10, .v (.int .i64 ((k : Int) + 1)))], [(40, ⟨3, 1, (X.set (k + 1) (t0 + 1)).map fun x => [.v (.int .i64 x)]⟩), (0, ⟨24, 2, [[.v (.int .i64 (q : Int)), aRows T]]⟩)], [40, 0]⟩ ?_ ?_
    · (refine weak_id rfl ?_ ?_ <;> ((try simp only [List.mem_cons, List.not_mem_nil, or_false, forall_eq_or_imp, forall_eq]); (try simp (disch := omega) [i64w, *])))
      intro z hz
      rw [show (X.map fun x => [AV.v (.int .i64 x)]).set (k + 1) [AV.v (.int .i64 (t0 + 1))] = (X.set (k + 1) (t0 + 1)).map fun x => [AV.v (.int .i64 x)] from (List.map_set ..).symm, show idsLL ((X.set (k + 1) (t0 + 1)).map fun x => [AV.v (.int .i64 x)]) = [] from ids_ints _] at hz
      cases hz
    have hll2 : (X.set (k + 1) (t0 + 1)).length = q + 1 := by rw [List.length_set, hll]
    have hget2 : (X.set (k + 1) (t0 + 1)).getD (k + 1) 0 = t0 + 1 := by simp [List.getD, hll, hkq]
    have hset2 : ∀ y, (X.set (k + 1) (t0 + 1)).set (k + 1) y = X.set (k + 1) y := fun y => List.set_set ..
    by_cases hgk : k < gaps.length
    · have hgr2 := hgr k hgk
      rw [if_pos hgk] at hset
      generalize X.set (k + 1) (t0 + 1) = Y at hll2 hget2 hset2 ⊢
      have hgb : (gaps.map fun x => [AV.v (.int .u8 x)]).getD k [] = [.v (.int .u8 (gaps.getD k 0))] := by simp [List.getD, hgk]
      obtain ⟨g, hge⟩ : ∃ g, gaps.getD k 0 = g := ⟨_, rfl⟩
      rw [hge] at hgr2 hset hgb
      have htm : g.tmod 9 = g % 9 := Int.tmod_eq_emod_of_nonneg hgr2.1
      obtain ⟨e, hee⟩ : ∃ e, g % 9 = e := ⟨_, rfl⟩
      have he : 0 ≤ e ∧ e < 9 := by omega
      rw [hee] at htm hset
      clear hee hge
      have hew : IntKind.i64.wrap e = e := i64w (by omega) (by omega)
      have hsw : IntKind.i64.wrap (t0 + 1 + e) = t0 + 1 + e := i64w (by omega) (by omega)
      have hgk2 : (k : Int) + 1 ≤ (gaps.length : Int) := by omega
      rw [← hset2] at hset
      clear hset2
      refine amStr (h := ?_)
      refine amReg PT84_ok (h := ?_)
      refine amStr (h := ?_)
      refine amDrw PT84_ok (h := ?_)
      refine amStr (h := ?_)
      refine amReg PT84_ok (h := ?_)
      refine k_lp (⟨k + 1, by omega⟩ : {k : Nat // k ≤ q}) (by dsimp only; omega) ?_
      (refine weak_id rfl ?_ ?_ <;> ((try simp only [List.mem_cons, List.not_mem_nil, or_false, forall_eq_or_imp, forall_eq]); (try simp (disch := omega) [i64w, *])))
      rw [← hset, List.map_set]
    · rw [if_neg hgk, Int.add_zero] at hset
      rw [hset]
      have hll3 := toL_len gaps q (k + 1)
      have hgk2 : ¬ (k : Int) + 1 ≤ (gaps.length : Int) := by omega
      have hgk3 : (gaps.length : Int) < (k : Int) + 1 := by omega
      refine amGo PT84_ok (h := ?_)
      refine k_lp (⟨k + 1, by omega⟩ : {k : Nat // k ≤ q}) (by dsimp only; omega) ?_
      (refine weak_id rfl ?_ ?_ <;> ((try simp only [List.mem_cons, List.not_mem_nil, or_false, forall_eq_or_imp, forall_eq]); (try simp (disch := omega) [i64w, *])))
  · obtain rfl : q = k := by omega
    clear hc hw1 hw0
    have htl : ∀ j, j ≤ q → (toL gaps q q).getD j 0 = toN gaps j := fun j hj => toL_get gaps hj hj
    obtain ⟨tl, htle⟩ : ∃ tl, toL gaps q q = tl := ⟨_, rfl⟩
    rw [htle] at hll htl ⊢
    rw [← hll]
    refine s_frz (fun q => q == 40) ?_
    (refine s_eq (τ := ?_) ?_ ?_; rotate_left; (focus ((try simp only [AS.frz, List.map_cons, List.map_nil]); (try simp [frzV, frzO, frzC, List.filter]); rfl)))
    refine amStr (h := ?_)
    refine amReg PT84_ok (h := ?_)
    refine amStr (h := ?_)
    refine s_cnil 42 0 1 41 28 1 rfl rfl (by simp) ?_ (by decide)
    (refine s_eq (τ := ?_) ?_ ?_; rotate_left; (focus ((try simp only [AS.frz, List.map_cons, List.map_nil]); (try simp [frzV, frzO, frzC, List.filter]); rfl)))
    refine amStr (h := ?_)
    refine amReg PT84_ok (h := ?_)
    refine amStr (h := ?_)
    refine s_loop (J := fun i : {i : Nat // i ≤ T.length} => ⟨188, [(3, .v (.int .u8 turn)), (4, .ptr 0 0 0), (8, .v (.bool false)), (9, aInts tl), (11, .ptr 42 0 0), (75, .v (.int .i64 (T.length : Int))), (76, .v (.int .i64 (i.1 : Int)))], [(41, ⟨28, 1, (movK gaps T turnN i.1).map fun xs => [aInts xs]⟩), (0, ⟨24, 2, [[.v (.int .i64 (q : Int)), aRows T]]⟩), (42, ⟨24, 2, [[.v (.int .i64 128), .ref 41 0 (movK gaps T turnN i.1).length]]⟩)], [41, 42, 0]⟩) (μ := fun i => T.length - i.1) ⟨0, Nat.zero_le _⟩ ?_ (fun ⟨i, hi⟩ => ?_)
    · have hm0 : movK gaps T turnN 0 = [] := rfl
      (refine weak_id rfl ?_ ?_ <;> ((try simp only [List.mem_cons, List.not_mem_nil, or_false, forall_eq_or_imp, forall_eq]); (try simp (disch := omega) [i64w, *])))
    have hmlen := movK_len gaps T turnN i
    have c1 : (i + 1) * 24 ≤ 140737488355328 := by omega
    have hwi : IntKind.i64.wrap ((i : Int) + turn) = (i : Int) + turn := i64w (by omega) (by omega)
    have hwi1 : IntKind.i64.wrap ((i : Int) + 1) = (i : Int) + 1 := i64s i (by omega)
    refine amGo PT84_ok (h := ?_)
    (focus ((with_reducible refine sp_cond (b := ?_) ?_ (fun hc => ?_) (fun hc => ?_)); rotate_left; (focus (first | rfl | (simp [lk, AS.ev]; rfl))); all_goals (try simp at hc)))
    · have hii := hc
      clear hc
      have htm : ((i : Int) + turn).tmod (T.length : Int) = (((i + turnN) % T.length : Nat) : Int) := by
        rw [← hturn, Int.tmod_eq_emod_of_nonneg (by omega)]; push_cast; rfl
      have hix : (i + turnN) % T.length < T.length := Nat.mod_lt _ (by omega)
      have hms := movK_succ gaps T turnN i
      rw [hf] at hms
      have hlc := hlits _ (getD_memL hix)
      have hrow := okRows_at hRT ((i + turnN) % T.length)
      obtain ⟨ix, hixe⟩ : ∃ ix, (i + turnN) % T.length = ix := ⟨_, rfl⟩
      rw [hixe] at htm hix hms hlc hrow
      have hTne : ¬ (T.length : Int) = 0 := by omega
      have hTne2 : ¬ T = [] := by intro e; subst e; simp at hii
      have hTne3 : ¬ T.length = 0 := by omega
      obtain ⟨c, hcc⟩ : ∃ c, T.getD ix [] = c := ⟨_, rfl⟩
      rw [hcc] at hms hlc hrow
      have hc128 := hlc.1
      refine amGo PT84_ok (h := ?_)
      refine s_nil 13 44 3 1 (by simp [lk]) (by simp) ?_
      simp only [st]
      refine s_loop (J := fun k : {k : Nat // k ≤ c.length} => ⟨188, [(3, .v (.int .u8 turn)), (4, .ptr 0 0 0), (8, .v (.bool false)), (9, aInts tl), (11, .ptr 42 0 0), (75, .v (.int .i64 (T.length : Int))), (76, .v (.int .i64 (i : Int))), (12, .v (.int .i64 (i : Int))), (13, .ref 44 0 (rowK f c k.1).length), (90, aInts c), (91, .v (.int .i64 (c.length : Int))), (92, .v (.int .i64 (k.1 : Int)))], [(44, ⟨3, 1, (rowK f c k.1).map fun x => [.v (.int .i64 x)]⟩), (41, ⟨28, 1, (movK gaps T turnN i).map fun xs => [aInts xs]⟩), (0, ⟨24, 2, [[.v (.int .i64 (q : Int)), aRows T]]⟩), (42, ⟨24, 2, [[.v (.int .i64 128), .ref 41 0 (movK gaps T turnN i).length]]⟩)], [44, 41, 42, 0]⟩) (μ := fun k => c.length - k.1) ⟨0, Nat.zero_le _⟩ ?_ (fun ⟨k, hk⟩ => ?_)
      · have hr0 : rowK f c 0 = [] := rfl
        (refine weak_id rfl ?_ ?_ <;> ((try simp only [List.mem_cons, List.not_mem_nil, or_false, forall_eq_or_imp, forall_eq]); (try simp (disch := omega) [i64w, *])))
      have hkl := rowK_len f hk
      have hcap : ((rowK f c k).length + 1) * 8 ≤ 140737488355328 := by omega
      have hcap2 : (k + 1) * 8 ≤ 140737488355328 := by omega
      refine amGo PT84_ok (h := ?_)
      (focus ((with_reducible refine sp_cond (b := ?_) ?_ (fun hc => ?_) (fun hc => ?_)); rotate_left; (focus (first | rfl | (simp [lk, AS.ev]; rfl))); all_goals (try simp at hc)))
      · have hkk := hc
        clear hc
        have hs := rowK_succ f hkk
        have hlo := hlc.2 _ (getD_memI hkk)
        have hok := okInts_at hrow k
        obtain ⟨l, hle⟩ : ∃ l, c.getD k 0 = l := ⟨_, rfl⟩
        rw [hle] at hs hlo hok
        have hla := litVar_abs hlo
        have hlr := litOk_range hlo
        have hfl : f l = if l < 0 then -(toN gaps (litVar l).toNat) else toN gaps (litVar l).toNat := by rw [← hf]; rfl
        have hgt := htl (litVar l).toNat (by omega)
        have htb := toN_le gaps (litVar l).toNat
        have htl2 : tl.length = q + 1 := hll
        generalize hv : toN gaps (litVar l).toNat = v at hfl hgt htb
        by_cases hl0 : l < 0
        · have hlv : litVar l = -l := by omega
          rw [if_pos hl0] at hfl
          rw [hlv] at hgt hv
          have hnw : IntKind.i64.wrap (-l) = -l := i64w (by omega) (by omega)
          have hvw : IntKind.i64.wrap (-v) = -v := i64w (by omega) (by omega)
          have i0 : 0 ≤ -l := by omega
          have i1 : -l < (tl.length : Int) := by omega
          have i1' : -l < (q : Int) + 1 := by omega
          have i2 : max (-l) 0 = -l := by omega
          have i3 : (-l).toNat < tl.length := by omega
          have i4 : (-l).toNat < q + 1 := by omega
          have i5 : l ≤ 0 := by omega
          clear hla hlr hlv
          rw [hfl] at hs
          refine amGo PT84_ok (h := ?_)
          refine k_lp (⟨k + 1, by omega⟩ : {k : Nat // k ≤ c.length}) (by dsimp only; omega) ?_
          (refine weak_of (fun q => if q = 44 then 53 else q) ⟨rfl, ?_, ?_, ?_⟩ <;> ((try simp only [List.mem_cons, List.not_mem_nil, or_false, forall_eq_or_imp, forall_eq]); (try simp (disch := omega) [lk, AV.ids, idsL, idsLL, AV.ren, renL, renLL, i64w, *])))
        · have hlv : litVar l = l := by omega
          rw [if_neg hl0] at hfl
          rw [hlv] at hgt hv
          have i0 : 0 ≤ l := by omega
          have i1 : l < (tl.length : Int) := by omega
          have i1' : l < (q : Int) + 1 := by omega
          have i2 : max l 0 = l := by omega
          have i3 : l.toNat < tl.length := by omega
          have i4 : l.toNat < q + 1 := by omega
          clear hla hlr hlv
          rw [hfl] at hs
          refine amGo PT84_ok (h := ?_)
          refine k_lp (⟨k + 1, by omega⟩ : {k : Nat // k ≤ c.length}) (by dsimp only; omega) ?_
          (refine weak_of (fun q => if q = 44 then 51 else q) ⟨rfl, ?_, ?_, ?_⟩ <;> ((try simp only [List.mem_cons, List.not_mem_nil, or_false, forall_eq_or_imp, forall_eq]); (try simp (disch := omega) [lk, AV.ids, idsL, idsLL, AV.ren, renL, renLL, i64w, *])))
      · obtain rfl : c.length = k := by omega
        clear hc hcap hcap2
        have hfull : rowK f c c.length = c.map f := by unfold rowK; rw [List.take_length]
        rw [hfull] at hkl ⊢
        generalize c.map f = d at hms hkl ⊢
        refine amStr (h := ?_)
        rw [← hkl]
        clear hkl
        refine s_frz (fun q => q == 44) ?_
        (refine s_eq (τ := ?_) ?_ ?_; rotate_left; (focus ((try simp only [AS.frz, List.map_cons, List.map_nil]); (try simp [frzV, frzO, frzC, List.filter]); rfl)))
        refine amGo PT84_ok (h := ?_)
        refine k_lp (⟨i + 1, by omega⟩ : {i : Nat // i ≤ T.length}) (by dsimp only; omega) ?_
        (refine weak_of (fun q => if q = 41 then 49 else q) ⟨rfl, ?_, ?_, ?_⟩ <;> ((try simp only [List.mem_cons, List.not_mem_nil, or_false, forall_eq_or_imp, forall_eq]); (try simp (disch := omega) [lk, AV.ids, idsL, idsLL, AV.ren, renL, renLL, i64w, *])))
    · obtain rfl : T.length = i := by omega
      clear hc c1 hwi hwi1
      obtain ⟨R, hR⟩ : ∃ R, movK gaps T turnN T.length = R := ⟨_, rfl⟩
      rw [hR] at hsB hkB hRM hmlen ⊢
      clear hR
      have hok128 : okI 128 = true := rfl
      have honl : okI (names.length : Int) = true := okI_iff.2 ⟨by omega, by omega⟩
      have hml2 : (names.map p).length = names.length := List.length_map ..
      refine amStr (h := ?_)
      refine s_weak ⟨188, [(4, .ptr 0 0 0), (8, .v (.bool false)), (9, aInts tl), (11, .ptr 42 0 0)], [(41, ⟨28, 1, R.map fun xs => [aInts xs]⟩), (0, ⟨24, 2, [[.v (.int .i64 (q : Int)), aRows T]]⟩), (42, ⟨24, 2, [[.v (.int .i64 128), .ref 41 0 R.length]]⟩)], [41, 42, 0]⟩ ?_ ?_
      · (refine weak_id rfl ?_ ?_ <;> ((try simp only [List.mem_cons, List.not_mem_nil, or_false, forall_eq_or_imp, forall_eq]); (try simp (disch := omega) [i64w, *])))
      clear hmlen
      refine s_frz (fun q => q == 41) ?_
      (refine s_eq (τ := ?_) ?_ ?_; rotate_left; (focus ((try simp only [AS.frz, List.map_cons, List.map_nil]); (try simp [frzV, frzO, frzC, List.filter]); rfl)))
      have hpv : ∀ v, p v = toN gaps v.toNat := fun v => by rw [← hp]
      clear hp hf
      refine amGo PT84_ok (h := ?_)
      refine s_loop (J := fun i : {i : Nat // i ≤ names.length} => ⟨188, [(8, .v (.bool false)), (9, aInts tl), (17, aInts names), (20, aInts (names.map p)), (170, .v (.int .i64 (names.length : Int))), (171, .v (.int .i64 (i.1 : Int)))], [], []⟩) (μ := fun i => names.length - i.1) ⟨0, Nat.zero_le _⟩ ?_ (fun ⟨i, hi⟩ => ?_)
      · (refine weak_id rfl ?_ ?_ <;> ((try simp only [List.mem_cons, List.not_mem_nil, or_false, forall_eq_or_imp, forall_eq]); (try simp (disch := omega) [i64w, *])))
      have hwi : IntKind.i64.wrap ((i : Int) + 1) = (i : Int) + 1 := i64s i (by omega)
      refine amGo PT84_ok (h := ?_)
      (focus ((with_reducible refine sp_cond (b := ?_) ?_ (fun hc => ?_) (fun hc => ?_)); rotate_left; (focus (first | rfl | (simp [lk, AS.ev]; rfl))); all_goals (try simp at hc)))
      · have hii := hc
        clear hc
        obtain ⟨v1, v2⟩ := hnm _ (getD_memI hii)
        have hmg : (names.map p).getD i 0 = p (names.getD i 0) := by simp [List.getD, hii]
        obtain ⟨v, hve⟩ : ∃ v, names.getD i 0 = v := ⟨_, rfl⟩
        rw [hve] at v1 v2 hmg
        have hgt := htl v.toNat (by omega)
        rw [← hpv] at hgt
        generalize p v = y at hmg hgt
        clear htl hpv
        have i0 : 0 ≤ v := by omega
        have i1 : v < (q : Int) + 1 := by omega
        have i2 : max v 0 = v := by omega
        have i4 : v.toNat < q + 1 := by omega
        refine amGo PT84_ok (h := ?_)
        refine k_lp (⟨i + 1, by omega⟩ : {i : Nat // i ≤ names.length}) (by dsimp only; omega) ?_
        (refine weak_id rfl ?_ ?_ <;> ((try simp only [List.mem_cons, List.not_mem_nil, or_false, forall_eq_or_imp, forall_eq]); (try simp (disch := omega) [i64w, *])))
      · obtain rfl : names.length = i := by omega
        clear hc
        refine amGo PT84_ok (h := ?_)
        ((refine post_ret (av := ?_) (by first | exact .inl rfl | exact .inr rfl) (show (Tryd.f5).results.toList = _ from by rw [Tryd.results5]) ?_ ?_); rotate_left; (focus (simp [retA, retL, ret1, lk, st, ldA, AV.cell]; rfl)); (try simp [*]))
theorem canonMoved_p (N : Int) (L : List (List Int)) (n : Int) (gaps : List Int) (turn : Int) (hN : okI N = true) (hL : okLens L = true) (hn0 : 0 ≤ n) (hn1 : n ≤ 255) (hg : okB gaps = true) (hgl : gaps.length ≤ 9223372036854775807) (ht0 : 0 ≤ turn) (ht1 : turn ≤ 255) :
    FnPure Tryd.prog 5 [aTh N L, .v (.int .u8 n), aB gaps, .v (.int .u8 turn)] (.v (.bool true)) := by
  by_cases hl : lightB L = true
  · exact moved_ok N L n gaps turn hN (light_rows hL hl) hl hn0 hn1 hg hgl ht0 ht1
  · unfold aTh
    refine fn_sp TT_ok Tryd.func5 (c := _) rfl (by simp [Tryd.ntmps5]) (fun B hI0 hro => ?_)
    rw [Tryd.ntmps5]
    simp only [enumA]
    refine amGo PT84_ok (h := ?_)
    ((refine post_ret (av := ?_) (by first | exact .inl rfl | exact .inr rfl) (show (Tryd.f5).results.toList = _ from by rw [Tryd.results5]) ?_ ?_); rotate_left; (focus (simp [retA, retL, ret1, lk, st, ldA, AV.cell]; rfl)); (try simp [*]))
namespace canonMoved
set_option maxRecDepth 100000
theorem contract (H : Type) (enc : TypeId × Value → H) (W : World) (base : Nat) (args : Array Value) (ds gs : List (DataW H)) (before : List MemPlace)
    (hval0 : ∀ (j : Nat) t v, (Go.Proofs.Tryd.f5).params[j]? = some t → args[j]? = some v → Value.okWide Tryd.prog W .any base t v)
    (hW : DataW.Whole enc Tryd.prog (Go.Proofs.Tryd.f5).params.toList Rows.canonMovedSpec.vars false W args.toList ds gs before) (hL : laidMetH Tryd.prog Rows.canonMovedRow.laid W) :
    Calls Tryd.prog 5 args W fun e W' => ∃ v, e = .returned v ∧ Rows.canonMovedSpec.post enc Tryd.prog Go.Proofs.Tryd.f5 false true false false W args v W' := by
  have hval : ∀ (j : Nat) t v, (Go.Proofs.Tryd.f5).params[j]? = some t → args[j]? = some v → Value.okWide Tryd.prog W .any base t v := hval0
  have hW2 := hW
  obtain ⟨p, q, hA0, hV, _, _, _⟩ := hW
  have hA : DataW.TrodAll enc Tryd.prog W 0 (fun _ => true) true (Go.Proofs.Tryd.f5).params.toList args.toList ds p := hA0
  rw [Tryd.params5] at hA hval
  clear hA0 hval0
  obtain ⟨rfl, _⟩ := trodVars_none hV
  obtain ⟨v0, vs0, d0, ds0, p0, q0, hargs, rfl, _, h0, r0⟩ := trodAll_cons hA
  obtain ⟨v1, vs1, d1, ds1, p1, q1, rfl, rfl, _, h1, r1⟩ := trodAll_cons r0
  obtain ⟨v2, vs2, d2, ds2, p2, q2, rfl, rfl, _, h2, r2⟩ := trodAll_cons r1
  obtain ⟨v3, vs3, d3, ds3, p3, q3, rfl, rfl, _, h3, r3⟩ := trodAll_cons r2
  obtain ⟨rfl, rfl, _⟩ := trodAll_nil r3
  obtain rfl : args = #[v0, v1, v2, v3] := by cases args; simp_all
  obtain ⟨N, L, ra0, oN0, oL0⟩ := arg_th (hval 0 _ v0 rfl rfl) h0
  obtain ⟨n, ra1, l1, u1⟩ := arg_u8 (hval 1 _ v1 rfl rfl) h1
  obtain ⟨gaps, ra2, oB2, oL2⟩ := arg_bytes (hval 2 _ v2 rfl rfl) h2
  obtain ⟨turn, ra3, l3, u3⟩ := arg_u8 (hval 3 _ v3 rfl rfl) h3
  refine law_of_pure (glob_of_laid hL) (avs := [.agg [.v (.int .i64 N), aRows L], .v (.int .u8 n), aB gaps, .v (.int .u8 turn)]) (by kernel_rfl) hW2 rfl (rec_ok (by kernel_rfl)) (tb := 4) rfl Tryd.underlying4 rfl rfl rfl rfl (fun i hi => ?_) (canonMoved_p N L n gaps turn oN0 oL0 l1 u1 oB2 oL2 l3 u3)
  match i, hi with
  | 0, _ => exact ra0
  | 1, _ => exact ra1
  | 2, _ => exact ra2
  | 3, _ => exact ra3
theorem laid_met (os : Os) : laidMet Tryd.prog Rows.canonMovedRow.laid ((laidWorld os).forCall (fun _ _ => 0) ⟨#[], #[.agg #[.int .i64 0, .slice none 0 0], .int .u8 0, .slice none 0 0, .int .u8 0], []⟩).memory :=
  laidMet_of_run' 8 (by kernel_rfl) (by kernel_rfl)
theorem lifted (os : Os) (started : os.Started) (H : Type) (enc : TypeId × Value → H) (F : Stop.Interp) :
    ReturnsInHanded {} Tryd.checked os 5 .any ((OpenSpec.ofChange Rows.canonMovedSpec).preRow enc Tryd.prog Go.Proofs.Tryd.f5 Rows.canonMovedRow.domain false Rows.canonMovedRow.laid) (((OpenSpec.ofChange Rows.canonMovedSpec).at F).post enc Tryd.prog Go.Proofs.Tryd.f5 false true false false) := by
  refine returnsInHanded_of_row (C := Tryd.checked) (s := OpenSpec.ofChange Rows.canonMovedSpec) (by kernel_rfl) started (by kernel_rfl) Tryd.func5
    (witness_row_at (enc := enc) (C := Tryd.checked) false (laidWorld os) #[.agg #[.int .i64 0, .slice none 0 0], .int .u8 0, .slice none 0 0, .int .u8 0] rfl (by kernel_rfl) (by kernel_rfl) (by kernel_rfl)
      (OpenSpec.preRow_of_cond 8 (show DataW.whole enc Tryd.prog ((laidWorld os).forCall (fun _ _ => 0) ⟨#[], #[.agg #[.int .i64 0, .slice none 0 0], .int .u8 0, .slice none 0 0, .int .u8 0], []⟩).memory (Go.Proofs.Tryd.f5).params.toList Rows.canonMovedSpec.vars false (#[.agg #[.int .i64 0, .slice none 0 0], .int .u8 0, .slice none 0 0, .int .u8 0] : Array Value).toList 8 = some ([.agg [.lit (.int .i64 0), .nil], .lit (.int .u8 0), .nil, .lit (.int .u8 0)], [], []) by kernel_rfl) (by kernel_rfl) (fun k hk => by cases hk) (by kernel_rfl) (laid_met os))) ?_
  intro W base args ds gs before hval hW _ _ _ hL _ _
  exact contract H enc W base args ds gs before hval hW hL
theorem said : Rows.CanonMovedSaid :=
  OpenClaim.holds_of_cond 5 Go.Proofs.Tryd.f5 rfl rfl rfl rfl rfl rfl rfl ⟨rfl, rfl, rfl, rfl, rfl⟩ rfl rfl rfl rfl rfl (by kernel_rfl) Tryd.func5 (by kernel_rfl)
    (of_decide_eq_true (by kernel_rfl)) (by unfold Func.isWrapper; first | (rw [if_pos (by decide +kernel)]; kernel_rfl) | (rw [if_neg (by decide +kernel)]; exact ⟨rfl, rfl⟩))
    (fun os started H enc _ F => by rw [OpenClaim.pre_eq_preRow]; exact lifted os started H enc F)
theorem plain (f : FuncId) (fn : Func) (hf : Tryd.pinned.checked.prog.funcNamed "census/censuslaw17.CanonMoved" = some f) (hfn : Tryd.pinned.checked.prog.funcs[f]? = some fn) :
    false = Tryd.pinned.checked.prog.looks [] ∧ ∀ (j : Nat) t, fn.params[j]? = some t → Tryd.pinned.checked.prog.wantsStandIn t = false := by
  obtain rfl : f = 5 := Option.some.inj ((show Tryd.prog.funcNamed "census/censuslaw17.CanonMoved" = some 5 by kernel_rfl).symm.trans hf) |>.symm
  obtain rfl : fn = Go.Proofs.Tryd.f5 := (Option.some.inj (Tryd.func5.symm.trans hfn)).symm
  refine ⟨by kernel_rfl, fun j t ht => ?_⟩
  rw [Tryd.params5] at ht
  have hall : (Tryd.checked.prog.funcs[5]?).all (fun g => g.params.toList.all fun t => !(Tryd.checked.prog.wantsStandIn t)) = true := by kernel_rfl
  rw [show Tryd.checked.prog.funcs[5]? = some Go.Proofs.Tryd.f5 from Tryd.func5] at hall
  have h2 : ∀ t ∈ (Go.Proofs.Tryd.f5).params.toList, (!(Tryd.checked.prog.wantsStandIn t)) = true := List.all_eq_true.1 hall
  have hm : t ∈ (Go.Proofs.Tryd.f5).params.toList := by rw [Tryd.params5]; exact Array.mem_toList_iff.2 (Array.mem_of_getElem? ht)
  have h3 : Tryd.checked.prog.wantsStandIn t = false := by simpa using h2 t hm
  exact h3
theorem proved : Rows.CanonMovedCardSaid :=
  Claim7.holds_tied_plain_at .later [] _ _ _ _ said (fun _ h => by cases h) (by kernel_rfl) (fun _ h => by cases h) canonMoved_row_tie rfl ⟨rfl, rfl⟩ (by kernel_rfl) rfl plain (by kernel_rfl)
end canonMoved
end Go.Proofs.YtafikekndefjcaaDoor
