/- theory.Normal as a function that returns rows of its own; no condition. -/
import Derived.Test.YtafikekndefjcaaDoorOb4
import Derived.Test.YtafikekndefjcaaDoorWa
namespace Go.Proofs.YtafikekndefjcaaDoor
set_option linter.unusedVariables false
set_option linter.unusedSimpArgs false
set_option linter.unusedSectionVars false
open Go.RowKit
attribute [local simp] List.getD_cons_zero List.getD_cons_succ List.getD_nil undef gvars runL runE effA stepA dstOk wantA core lk st dl AS.ev AS.evs AS.put AS.upd updO updI nxt cPick cAlloc cBox cBuild cBuildS cLoad cStore cNil plainOf cBin cNilS isNilS nilA cUn cConvX cConvB cConv bytesOf rowB cMake cSlice slA idxA cFA cF cIA cIX cIS cI cExt cLen cApp cMM cFun cCall lenA lenM isNilM nilM cNilM cMakeM hintB cMapK cLook foundR lookR cUpd putM cDel delM findA isKeyB Instr.sameNow AS.entry AS.bound AS.callee sc1 sc2 ixOk ldA AV.flat AV.cell AV.cells Value.oneCell' fillA spl chunk zeros AS.parts AS.rows AS.shut AS.shut1 AS.shut2 AS.shutL AS.shutM AV.ids idsL idsLL eqAll bndA AV.scalar AV.scalar1 AV.isV Ef.app Ef.pk ptOf pntO wrO wr
attribute [-simp] List.getD_eq_getElem?_getD
set_option maxRecDepth 100000
attribute [local simp] AV.ren renL obI shO_cons lk_st lk_dl
theorem refsI_refsP {b : Nat} {M : List (List Int)} {π ρ : Nat → Nat} (h : ∀ j, j < M.length → ρ (b + j) = b + π j) : renLL ρ (refsI b M) = refsP b M π := by
  apply List.ext_getElem
  · rw [renLL_len, refsI_len]; simp [refsP]
  · intro i h1 h2
    rw [renLL_len, refsI_len] at h1
    have e3 : ∀ (l : List (List AV)) (hi : i < l.length), l[i] = l.getD i [] := fun l hi => by simp [List.getD, hi]
    rw [e3, e3, renLL_getD, refsI_get h1, refsP_get h1]
    simp only [renL, AV.ren, h i h1]
theorem distIx_nodup (M : List (List Int)) (k : Nat) : (distIx M k).Nodup := List.nodup_range.filter _
theorem nodup_getD {l : List Nat} (h : l.Nodup) {i j : Nat} (hi : i < l.length) (hj : j < l.length) (e : l.getD i 0 = l.getD j 0) : i = j := by
  simp only [List.getD, List.getElem?_eq_getElem hi, List.getElem?_eq_getElem hj, Option.getD_some] at e
  exact (List.getElem_inj h).1 e
theorem refsI_refsX {S : List (List Int)} {ix : List Nat} {ρ : Nat → Nat} (h : ∀ j, j < ix.length → ρ (1 + j) = 1000 + ix.getD j 0) : renLL ρ (refsI 1 (ix.map fun i => S.getD i [])) = refsX 1000 S ix := by
  apply List.ext_getElem
  · rw [renLL_len, refsI_len, refsX_len]; simp
  · intro i h1 h2
    rw [renLL_len, refsI_len, List.length_map] at h1
    have e3 : ∀ (l : List (List AV)) (hi : i < l.length), l[i] = l.getD i [] := fun l hi => by simp [List.getD, hi]
    rw [e3, renLL_getD, refsI_get (by rw [List.length_map]; exact h1)]
    simp only [renL, AV.ren, h i h1]
    simp [refsX, List.getD, h1]
theorem normal_obj (N : Int) (L : List (List Int)) (hN : okI N = true) (h : okRows L = true) (hz : checkT N L = 0) : FnObj Tryd.prog 34 [aTh N L] (resT N (normL L)) (objT (normL L)) (idsT (normL L)) := by
  have hm := okRows_len h
  have hck := checkT_ok hz
  unfold aTh
  refine fn_obj TT_ok Tryd.func34 (c := _) rfl (by simp [Tryd.ntmps34]) (within_T _ fun k hk => by simpa [resT, AV.ids, idsL] using hk) (fun B hI0 hro => ?_)
  rw [Tryd.ntmps34]
  simp only [enumA]
  refine amGo PT3_ok (h := ?_)
  refine s_nil 5 2 28 1 (by simp [lk]) (by simp) ?_
  simp only [st]
  refine s_loop (J := fun i : {k : Nat // k ≤ L.length} => ⟨46, [(1, .ptr 0 0 0), (2, .ptr 1 0 0), (3, .v (.int .i64 0)), (5, .ref 2 0 (openL (L.take i.1)).length), (18, aRows L), (19, .v (.int .i64 (L.length : Int))), (20, .v (.int .i64 (i.1 : Int)))], [(2, ⟨28, 1, refsI 1000 (openL (L.take i.1))⟩), (0, ⟨24, 2, [[.v (.int .i64 N), aRows L]]⟩), (1, ⟨24, 2, [[.v (.int .i64 0), .v (.slice none 0 0)]]⟩)] ++ fam 1000 (openL (L.take i.1)), [2, 1, 0] ++ List.range' 1000 (openL (L.take i.1)).length⟩) (μ := fun i => L.length - i.1) ⟨0, Nat.zero_le _⟩ ?_ (fun ⟨k, hk⟩ => ?_)
  · have e0 : openL [] = [] := rfl
    have e1 : refsI 1000 [] = [] := rfl
    (refine weak_fam (fun k => k) rfl ?_ ?_ ?_ ?_ ?_ ?_ <;> ((try simp only [List.mem_cons, List.not_mem_nil, or_false, forall_eq_or_imp, forall_eq]); (try simp (disch := omega) [lk, AV.ids, idsL, idsLL, AV.ren, renL, renLL, i64w, *])))
    all_goals rfl
  refine amStr (h := ?_)
  refine amReg PT3_ok (h := ?_)
  refine amStr (h := ?_)
  (focus ((with_reducible refine sp_cond (b := ?_) ?_ (fun hc => ?_) (fun hc => ?_)); rotate_left; (focus (first | rfl | (simp [lk, AS.ev]; rfl))); all_goals (try simp at hc)))
  · have hd := openL_len (L.take k)
    have htk : (L.take k).length ≤ k := by rw [List.length_take]; omega
    have hcap : ((openL (L.take k)).length + 1) * 24 ≤ 140737488355328 := by omega
    have hmem : L.getD k [] ∈ L := by
      have : L.getD k [] = L[k] := by simp [List.getD, hc]
      rw [this]; exact List.getElem_mem _
    have ho := okRows_at h k
    have hv : ((L.getD k []).all fun y => litOk y N) = true := List.all_eq_true.2 (hck.2.2.2 _ hmem).2
    have hs := openL_take L hc
    have hril := refsI_len 1000 (openL (L.take k))
    refine amStr (h := ?_)
    refine amReg PT3_ok (h := ?_)
    refine amStr (h := ?_)
    refine s_regionL ?_
    ((iterate 3 (((with_reducible refine spl_step TT_ok PT3_ok (id := 0) (σ' := ?_) ?_ ?_); rotate_left; (focus (simp [*]; rfl))))))
    refine spl_obj (clause_obj (L.getD k []) N ho hN hv) 7 (by simp) rfl rfl (enters_ok (avs := [aInts (L.getD k []), .v (.int .i64 N)]) (cs := []) rfl (by kernel_rfl) rfl rfl) (by simp [idsL]) (fun c h => by cases h) ?_
    (refine spl_eq (τ := ?_) ?_ ?_; rotate_left; (focus ((try simp only [AS.frz, List.map_cons, List.map_nil]); (try simp [frzV, frzO, frzC, List.filter]); rfl)))
    ((iterate 7 (((with_reducible refine spl_step TT_ok PT3_ok (id := 0) (σ' := ?_) ?_ ?_); rotate_left; (focus (simp [*]; rfl))))))
    refine spl_nil ?_
    cases hadj : adjOpp (orderL (L.getD k []))
    · simp only [hadj, if_true, Bool.false_eq_true, if_false] at hs
      refine amStr (h := ?_)
      refine amReg PT3_ok (h := ?_)
      refine amStr (h := ?_)
      refine s_regionL ?_
      ((iterate 2 (((with_reducible refine spl_step TT_ok PT3_ok (id := 0) (σ' := ?_) ?_ ?_); rotate_left; (focus (simp [*]; rfl))))))
      (((with_reducible refine spl_step TT_ok PT3_ok (id := 8) (σ' := ?_) ?_ ?_); rotate_left; (focus (simp [*]; rfl))))
      (((with_reducible refine spl_step TT_ok PT3_ok (id := 9) (σ' := ?_) ?_ ?_); rotate_left; (focus (simp [*]; rfl))))
      ((iterate 1 (((with_reducible refine spl_step TT_ok PT3_ok (id := 0) (σ' := ?_) ?_ ?_); rotate_left; (focus (simp [*]; rfl))))))
      refine spl_nil ?_
      refine amStr (h := ?_)
      refine amReg PT3_ok (h := ?_)
      refine k_lp (⟨k + 1, by omega⟩ : {k : Nat // k ≤ L.length}) (by dsimp only; omega) ?_
      dsimp only
      rw [hs]
      have hsn := refsI_snoc 1000 (openL (L.take k)) (orderL (L.getD k []))
      have hnl : ∀ j : Nat, ¬ (1000 + j < 1000) := fun j => by omega
      have hre := ren_refsI (fun q => if q < 1000 then (if q = 2 then 9 else q) else if q = 1000 + (openL (L.take k)).length then 7 else q) 1000 1000 (openL (L.take k)) _ rfl (fun j hj => by rw [if_neg (by omega), if_neg (by omega)]) (fun _ _ => rfl)
      (refine weak_fam (fun q => if q < 1000 then (if q = 2 then 9 else q) else if q = 1000 + (openL (L.take k)).length then 7 else q) rfl ?_ ?_ ?_ ?_ ?_ ?_ <;> ((try simp only [List.mem_cons, List.not_mem_nil, or_false, forall_eq_or_imp, forall_eq]); (try simp (disch := omega) [lk, AV.ids, idsL, idsLL, AV.ren, renL, renLL, i64w, *])))
      · refine ⟨?_, fun q hq => ?_⟩
        · rw [renLL_append, hre]; simp [renLL, hnl]
        · rcases hq with hq | rfl
          · have := ids_refsI _ _ hq
            exact .inr ⟨by omega, by omega⟩
          · exact .inr ⟨by omega, by omega⟩
      · intro j hj
        by_cases e : j = (openL (L.take k)).length
        · subst e; simp [List.getD]
        · have hjm : j < (openL (L.take k)).length := by omega
          rw [if_neg e, if_neg (by omega), if_neg (by omega), if_neg (by omega), if_neg (by omega), if_neg (by omega), if_neg (by omega), lk_fam_add hjm]
          simp [List.getD, List.getElem?_append_left hjm, obI]
      · intro j hj i hi e
        split at e <;> split at e <;> omega
      · refine ⟨fun j hj => ?_, fun j hj => ?_, fun j hj => ?_⟩ <;> split <;> omega
    · simp only [hadj, if_true, List.append_nil] at hs
      refine amStr (h := ?_)
      refine amReg PT3_ok (h := ?_)
      refine amStr (h := ?_)
      refine amReg PT3_ok (h := ?_)
      refine k_lp (⟨k + 1, by omega⟩ : {k : Nat // k ≤ L.length}) (by dsimp only; omega) ?_
      dsimp only
      rw [hs]
      have hre := ren_refsI (fun q => q) 1000 1000 (openL (L.take k)) _ rfl (fun j hj => rfl) (fun _ _ => rfl)
      (refine weak_fam (fun q => q) rfl ?_ ?_ ?_ ?_ ?_ ?_ <;> ((try simp only [List.mem_cons, List.not_mem_nil, or_false, forall_eq_or_imp, forall_eq]); (try simp (disch := omega) [lk, AV.ids, idsL, idsLL, AV.ren, renL, renLL, i64w, *])))
      · exact fun q hq => .inr (ids_refsI _ _ hq)
      · intro j hj
        rw [if_neg (by omega), if_neg (by omega), if_neg (by omega), if_neg (by omega), lk_fam_add hj]; rfl
      · exact ⟨fun j _ => by omega, fun j _ => by omega, fun j _ => by omega⟩
  · obtain rfl : k = L.length := by omega
    rw [List.take_length]
    have hlits : ∀ c ∈ openL L, Lits c := fun c hcc => by
      unfold openL at hcc
      obtain ⟨d, hd, rfl⟩ := List.mem_map.1 hcc
      intro x hx
      have := litOk_range ((hck.2.2.2 d (List.mem_filter.1 hd).1).2 x (mem_orderL.1 hx))
      unfold isLit
      have h2 := (hck.2.2.2 d (List.mem_filter.1 hd).1).2 x (mem_orderL.1 hx)
      unfold litOk at h2
      simp only [Bool.and_eq_true, decide_eq_true_eq] at h2 ⊢
      have h3 := litVar_range x
      omega
    have hok : okRows (openL L) = true := by
      have := openL_len L
      simp only [okRows, Bool.and_eq_true, List.all_eq_true, decide_eq_true_eq]
      refine ⟨fun c hcc => ?_, by omega⟩
      unfold openL at hcc
      obtain ⟨d, hd, rfl⟩ := List.mem_map.1 hcc
      have hd1 := (List.mem_filter.1 hd).1
      exact okInts_order (okRows_mem h d hd1) (okL_iff.2 fun y hy => by have := litOk_range ((hck.2.2.2 d hd1).2 y hy); omega)
    have hok2 := okRows_sort hok
    have hsl : (sortRows (openL L)).length = (openL L).length := (sortRows_perm _).length_eq
    clear hc
    refine amStr (h := ?_)
    refine s_regionL ?_
    ((iterate 1 (((with_reducible refine spl_step TT_ok PT3_ok (id := 0) (σ' := ?_) ?_ ?_); rotate_left; (focus (simp [*]; rfl))))))
    refine spl_sortI (M := openL L) rfl rfl rfl rfl rfl (by omega) (fun j hj => ?_) hok hlits (fun π hπ => ?_)
    · simp only [lk, List.cons_append, List.nil_append]
      rw [if_neg (by omega), if_neg (by omega), if_neg (by omega), lk_fam_add hj]
    refine spl_nil ?_
    refine k_seq ?_
    obtain ⟨S, hS⟩ : ∃ S, sortRows (openL L) = S := ⟨_, rfl⟩
    have hD : normL L = (distIx S S.length).map fun i => S.getD i [] := by unfold normL; rw [hS]; exact distK_ix S S.length
    unfold SortedBy at hπ
    rw [hS] at hπ hsl hok2
    rw [hS]
    refine s_weak ⟨46, [(1, .ptr 0 0 0), (2, .ptr 1 0 0), (3, .v (.int .i64 0)), (5, .ref 2 0 S.length)], [(2, ⟨28, 1, refsI 1000 S⟩), (0, ⟨24, 2, [[.v (.int .i64 N), aRows L]]⟩), (1, ⟨24, 2, [[.v (.int .i64 0), .v (.slice none 0 0)]]⟩)] ++ fam 1000 S, [2, 1, 0] ++ List.range' 1000 S.length⟩ ?_ ?_ hI0
    · have hnl : ∀ j : Nat, ¬ (1000 + j < 1000) := fun j => by omega
      have hre := refsI_refsP (b := 1000) (M := S) (π := π) (ρ := fun q => if q < 1000 then q else 1000 + π (q - 1000)) (fun j hj => by rw [if_neg (by omega)]; congr 2; omega)
      (refine weak_fam (fun q => if q < 1000 then q else 1000 + π (q - 1000)) rfl ?_ ?_ ?_ ?_ ?_ ?_ <;> ((try simp only [List.mem_cons, List.not_mem_nil, or_false, forall_eq_or_imp, forall_eq]); (try simp (disch := omega) [lk, AV.ids, idsL, idsLL, AV.ren, renL, renLL, i64w, *])))
      · intro q hq
        have := ids_refsI _ _ hq
        exact .inr ⟨by omega, by omega⟩
      · intro j hj
        obtain ⟨h1, h2⟩ := hπ.1 j hj
        rw [if_neg (by omega), if_neg (by omega), if_neg (by omega), lk_fam_add h1, h2]; rfl
      · intro j hj i hi e; exact hπ.2 j i hj hi e
      · exact ⟨fun j _ => by omega, fun j _ => by omega, fun j _ => by omega⟩
    rw [hD]
    clear hπ hsl hD hS hok hlits hm
    refine amStr (h := ?_)
    refine s_drawX (es := ?es) (σ' := ?s1) (σ0 := ?s0) (o0 := ?o0) (e0 := ⟨some 44, .ref 5 0 (distIx S S.length).length, [(5, some (outO S))], [43], 5 :: ([2] ++ List.range' 1000 S.length), none⟩) (q := 6) prog_mixed TT_ok PT3_ok ?he0 ?hrun ?hok ?kk
    case hrun =>
      (((with_reducible refine runX_cons (e := ?_) (σ1 := ?_) (es := ?_) ?_ ?_ ?_ ?_); rotate_left 4; (focus (simp [*]; exact Eq.refl _)); (focus (simp; exact Eq.refl _))))
      (((with_reducible refine runX_cons (e := ?_) (σ1 := ?_) (es := ?_) ?_ ?_ ?_ ?_); rotate_left 4; (focus (simp [*]; exact Eq.refl _)); (focus (simp; exact Eq.refl _))))
      (((with_reducible refine runX_cons (e := ?_) (σ1 := ?_) (es := ?_) ?_ ?_ ?_ ?_); rotate_left 4; (focus (simp [*]; exact Eq.refl _)); (focus (simp; exact Eq.refl _))))
      refine runX_call (es := ?_) (σ1 := ?_) ?_ ?_
      rotate_left 2
      · simp; exact Eq.refl _
      (((with_reducible refine runX_cons (e := ?_) (σ1 := ?_) (es := ?_) ?_ ?_ ?_ ?_); rotate_left 4; (focus (simp [*]; exact Eq.refl _)); (focus (simp; exact Eq.refl _))))
      (((with_reducible refine runX_cons (e := ?_) (σ1 := ?_) (es := ?_) ?_ ?_ ?_ ?_); rotate_left 4; (focus (simp [*]; exact Eq.refl _)); (focus (simp; exact Eq.refl _))))
      (((with_reducible refine runX_cons (e := ?_) (σ1 := ?_) (es := ?_) ?_ ?_ ?_ ?_); rotate_left 4; (focus (simp [*]; exact Eq.refl _)); (focus (simp; exact Eq.refl _))))
      exact runX_nil
      all_goals decide
    case he0 =>
      intro D
      refine distinct_eff S hok2 rfl rfl rfl rfl rfl (fun j hj => ?_) (fun k hk => ?_) ?_
      · simp only [lk]
        rw [if_neg (by omega), if_neg (by omega), if_neg (by omega), lk_fam_add hj]
      · simp at hk ⊢
        rcases hk with rfl | hk
        · exact .inl rfl
        · exact .inr (.inr (.inr hk))
      · simp
    case hok => kernel_rfl
    case kk =>
      refine amStr (h := ?_)
      have hlt : ∀ j, j < (distIx S S.length).length → (distIx S S.length).getD j 0 < S.length := fun j hj => by
        have : (distIx S S.length).getD j 0 = (distIx S S.length)[j] := by simp [List.getD, hj]
        rw [this]; exact distIx_lt (List.getElem_mem hj)
      have key : ∀ k ob, lk (objT ((distIx S S.length).map fun i => S.getD i [])) k = some ob → (k = 0 ∧ ob = ⟨28, 1, refsI 1 ((distIx S S.length).map fun i => S.getD i [])⟩) ∨ ∃ j, j < (distIx S S.length).length ∧ k = 1 + j ∧ ob = obI (S.getD ((distIx S S.length).getD j 0) []) := fun k ob hk => by
        unfold objT at hk
        simp only [lk] at hk
        split at hk
        · rename_i e; cases hk; exact .inl ⟨e.symm, rfl⟩
        · rw [lk_famI] at hk
          split at hk
          · rename_i hc; cases hk
            rw [List.length_map] at hc
            refine .inr ⟨k - 1, by omega, by omega, ?_⟩
            rw [show ((distIx S S.length).map fun i => S.getD i []).getD (k - 1) [] = S.getD ((distIx S S.length).getD (k - 1) 0) [] from by simp [List.getD, show k - 1 < (distIx S S.length).length by omega]]
            rfl
          · cases hk
      refine post_obj (.inr rfl) (by rw [Tryd.results34]) (av := .tup [.agg [.v (.int .i64 N), .ref 5 0 (distIx S S.length).length], .v (.int .i64 0)]) ?_ (fun k => if k = 0 then 5 else 1000 + (distIx S S.length).getD (k - 1) 0) ?_ (fun k ob hk => ?_) (fun k ob k' ob' hk hk' e => ?_)
      · simp [retA, retL, ret1, lk, ldA, AV.cell]
      · simp [resT]
      · rcases key k ob hk with ⟨rfl, rfl⟩ | ⟨j, hj, rfl, rfl⟩
        · have hre := refsI_refsX (S := S) (ix := distIx S S.length) (ρ := fun k => if k = 0 then 5 else 1000 + (distIx S S.length).getD (k - 1) 0) (fun j hj => by rw [if_neg (by omega), show 1 + j - 1 = j by omega])
          rw [if_pos rfl]
          dsimp only
          rw [hre]
          simp [lk, lk_st, outO]
        · have h1 := hlt j hj
          rw [if_neg (by omega), show 1 + j - 1 = j by omega]
          simp only [lk, lk_st]
          rw [if_neg (by omega), if_neg (by omega), if_neg (by omega), if_neg (by omega), lk_fam_add h1]
          simp [obI]
      · replace e : (if k = 0 then 5 else 1000 + (distIx S S.length).getD (k - 1) 0) = if k' = 0 then 5 else 1000 + (distIx S S.length).getD (k' - 1) 0 := e
        rcases key k ob hk with ⟨rfl, _⟩ | ⟨j, hj, rfl, _⟩ <;> rcases key k' ob' hk' with ⟨rfl, _⟩ | ⟨i, hi, rfl, _⟩
        · rfl
        · rw [if_pos rfl, if_neg (by omega)] at e; omega
        · rw [if_pos rfl, if_neg (by omega)] at e; omega
        · rw [if_neg (by omega), if_neg (by omega), show 1 + j - 1 = j by omega, show 1 + i - 1 = i by omega] at e
          rw [nodup_getD (distIx_nodup S S.length) hj hi (by omega)]
end Go.Proofs.YtafikekndefjcaaDoor
