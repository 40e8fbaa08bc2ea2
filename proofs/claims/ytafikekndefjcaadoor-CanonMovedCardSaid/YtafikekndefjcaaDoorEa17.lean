/- Contracts of censuslaw17.equal and bytes.Equal, by the abstract machine; no condition. -/
import Derived.Test.YtafikekndefjcaaDoorLt
import Derived.Test.YtafikekndefjcaaDoorWa
namespace Go.Proofs.YtafikekndefjcaaDoor
set_option linter.unusedVariables false
set_option linter.unusedSimpArgs false
set_option linter.unusedSectionVars false
open Go.RowKit
attribute [local simp] List.getD_cons_zero List.getD_cons_succ List.getD_nil undef gvars runL runE effA stepA dstOk wantA core lk st dl AS.ev AS.evs AS.put AS.upd updO updI nxt cPick cAlloc cBox cBuild cBuildS cLoad cStore cNil plainOf cBin cNilS isNilS nilA cUn cConvX cConvB cConv bytesOf rowB cMake cSlice slA idxA cFA cF cIA cIX cIS cI cExt cLen cApp cMM cFun cCall lenA lenM isNilM nilM cNilM cMakeM hintB cMapK cLook foundR lookR cUpd putM cDel delM findA isKeyB Instr.sameNow AS.entry AS.bound AS.callee sc1 sc2 ixOk ldA AV.flat AV.cell AV.cells Value.oneCell' fillA spl chunk zeros AS.parts AS.rows AS.shut AS.shut1 AS.shut2 AS.shutL AS.shutM AV.ids idsL idsLL eqAll bndA AV.scalar AV.scalar1 AV.isV Ef.app Ef.pk ptOf pntO wrO wr
attribute [-simp] List.getD_eq_getElem?_getD
set_option maxRecDepth 100000
theorem ints_eq_of {a b : List Int} (hl : a.length = b.length) (h : ∀ j, j < a.length → a.getD j 0 = b.getD j 0) : a = b := by
  refine List.ext_getElem hl fun j h1 h2 => ?_
  have := h j h1
  simpa [List.getD, h1, h2] using this
theorem equal17_p (N : Int) (L : List (List Int)) (M : Int) (K : List (List Int)) (hL : okRows L = true) (hK : okRows K = true) : FnPure Tryd.prog 23 [aTh N L, aTh M K] (.v (.bool (thSame N L M K))) := by
  have hm := okRows_len hL
  unfold aTh thSame
  by_cases hN : N = M
  · subst hN
    by_cases hl : L.length = K.length
    · refine fn_sp TT_ok Tryd.func23 (c := _) rfl (by simp [Tryd.ntmps23]) (fun B hI0 hro => ?_)
      rw [Tryd.ntmps23]
      simp only [enumA]
      refine amGo PT16_ok (h := ?_)
      refine s_loop (J := fun i : {k : Nat // k ≤ L.length ∧ ∀ j, j < k → L.getD j [] = K.getD j []} => ⟨68, [(2, .ptr 0 0 0), (3, .ptr 1 0 0), (23, .v (.int .i64 (L.length : Int))), (24, .v (.int .i64 (i.1 : Int)))], [(0, ⟨24, 2, [[.v (.int .i64 N), aRows L]]⟩), (1, ⟨24, 2, [[.v (.int .i64 N), aRows K]]⟩)], [0, 1]⟩) (μ := fun i => L.length - i.1) ⟨0, Nat.zero_le _, fun j hj => by omega⟩ ?_ (fun ⟨k, hk, he⟩ => ?_)
      · (refine weak_id rfl ?_ ?_ <;> ((try simp only [List.mem_cons, List.not_mem_nil, or_false, forall_eq_or_imp, forall_eq]); (try simp (disch := omega) [i64w, *])))
        all_goals rfl
      refine amGo PT16_ok (h := ?_)
      (focus ((with_reducible refine sp_cond (b := ?_) ?_ (fun hc => ?_) (fun hc => ?_)); rotate_left; (focus (first | rfl | (simp [lk, AS.ev]; rfl))); all_goals (try simp at hc)))
      · have hkk := hc
        clear hc
        have ho1 := okInts_len (okRows_at hL k)
        have ho2 := okRows_at hK k
        have hk2 : k < K.length := by omega
        by_cases hrl : (L.getD k []).length = (K.getD k []).length
        · refine amGo PT16_ok (h := ?_)
          refine s_loop (J := fun i : {q : Nat // q ≤ (L.getD k []).length ∧ ∀ j, j < q → (L.getD k []).getD j 0 = (K.getD k []).getD j 0} => ⟨68, [(2, .ptr 0 0 0), (3, .ptr 1 0 0), (5, .v (.int .i64 (k : Int))), (23, .v (.int .i64 (L.length : Int))), (24, .v (.int .i64 (k : Int))), (45, .v (.int .i64 ((L.getD k []).length : Int))), (46, .v (.int .i64 (i.1 : Int)))], [(0, ⟨24, 2, [[.v (.int .i64 N), aRows L]]⟩), (1, ⟨24, 2, [[.v (.int .i64 N), aRows K]]⟩)], [0, 1]⟩) (μ := fun i => (L.getD k []).length - i.1) ⟨0, Nat.zero_le _, fun j hj => by omega⟩ ?_ (fun ⟨q, hq, hqe⟩ => ?_)
          · (refine weak_id rfl ?_ ?_ <;> ((try simp only [List.mem_cons, List.not_mem_nil, or_false, forall_eq_or_imp, forall_eq]); (try simp (disch := omega) [i64w, *])))
            all_goals rfl
          refine amGo PT16_ok (h := ?_)
          (focus ((with_reducible refine sp_cond (b := ?_) ?_ (fun hc => ?_) (fun hc => ?_)); rotate_left; (focus (first | rfl | (simp [lk, AS.ev]; rfl))); all_goals (try simp at hc)))
          · have hqq := hc
            clear hc
            have hq2 : q < (K.getD k []).length := by omega
            by_cases hx : (L.getD k []).getD q 0 = (K.getD k []).getD q 0
            · have hb : ((L.getD k []).getD q 0 != (K.getD k []).getD q 0) = false := by simp only [hx, bne_self_eq_false]
              refine amGo PT16_ok (h := ?_)
              refine k_lp (⟨q + 1, by omega, fun j hj => ?_⟩ : {q : Nat // q ≤ (L.getD k []).length ∧ ∀ j, j < q → (L.getD k []).getD j 0 = (K.getD k []).getD j 0}) (by dsimp only; omega) ?_
              · by_cases e : j < q
                · exact hqe j e
                · obtain rfl : j = q := by omega
                  exact hx
              · (refine weak_id rfl ?_ ?_ <;> ((try simp only [List.mem_cons, List.not_mem_nil, or_false, forall_eq_or_imp, forall_eq]); (try simp (disch := omega) [i64w, *])))
            · have hb : ((L.getD k []).getD q 0 != (K.getD k []).getD q 0) = true := by rw [bne_iff_ne]; exact hx
              have hne : L ≠ K := fun e => hx (by rw [e])
              refine amGo PT16_ok (h := ?_)
              ((refine post_ret (av := ?_) (by first | exact .inl rfl | exact .inr rfl) (show (Tryd.f23).results.toList = _ from by rw [Tryd.results23]) ?_ ?_); rotate_left; (focus (simp [retA, retL, ret1, lk, st, ldA, AV.cell]; rfl)); (try simp [*]))
          · have heq : L.getD k [] = K.getD k [] := ints_eq_of hrl fun j hj => hqe j (by omega)
            clear hc
            refine amGo PT16_ok (h := ?_)
            refine k_lp (⟨k + 1, by omega, fun j hj => ?_⟩ : {k : Nat // k ≤ L.length ∧ ∀ j, j < k → L.getD j [] = K.getD j []}) (by dsimp only; omega) ?_
            · by_cases e : j < k
              · exact he j e
              · obtain rfl : j = k := by omega
                exact heq
            · (refine weak_id rfl ?_ ?_ <;> ((try simp only [List.mem_cons, List.not_mem_nil, or_false, forall_eq_or_imp, forall_eq]); (try simp (disch := omega) [i64w, *])))
        · have hb : (((L.getD k []).length : Int) != ((K.getD k []).length : Int)) = true := by rw [bne_iff_ne]; omega
          have hne : L ≠ K := fun e => hrl (by rw [e])
          refine amGo PT16_ok (h := ?_)
          ((refine post_ret (av := ?_) (by first | exact .inl rfl | exact .inr rfl) (show (Tryd.f23).results.toList = _ from by rw [Tryd.results23]) ?_ ?_); rotate_left; (focus (simp [retA, retL, ret1, lk, st, ldA, AV.cell]; rfl)); (try simp [*]))
      · have heq : L = K := rows_eq_of hl fun j hj => he j (by omega)
        refine amGo PT16_ok (h := ?_)
        ((refine post_ret (av := ?_) (by first | exact .inl rfl | exact .inr rfl) (show (Tryd.f23).results.toList = _ from by rw [Tryd.results23]) ?_ ?_); rotate_left; (focus (simp [retA, retL, ret1, lk, st, ldA, AV.cell]; rfl)); (try simp [*]))
    · have hne : L ≠ K := fun e => hl (by rw [e])
      have hb : ((L.length : Int) != (K.length : Int)) = true := by rw [bne_iff_ne]; omega
      refine fn_sp TT_ok Tryd.func23 (c := _) rfl (by simp [Tryd.ntmps23]) (fun B hI0 hro => ?_)
      rw [Tryd.ntmps23]
      simp only [enumA]
      refine amGo PT16_ok (h := ?_)
      ((refine post_ret (av := ?_) (by first | exact .inl rfl | exact .inr rfl) (show (Tryd.f23).results.toList = _ from by rw [Tryd.results23]) ?_ ?_); rotate_left; (focus (simp [retA, retL, ret1, lk, st, ldA, AV.cell]; rfl)); (try simp [*]))
  · have hb : (N != M) = true := by simpa using hN
    refine fn_sp TT_ok Tryd.func23 (c := _) rfl (by simp [Tryd.ntmps23]) (fun B hI0 hro => ?_)
    rw [Tryd.ntmps23]
    simp only [enumA]
    refine amGo PT16_ok (h := ?_)
    ((refine post_ret (av := ?_) (by first | exact .inl rfl | exact .inr rfl) (show (Tryd.f23).results.toList = _ from by rw [Tryd.results23]) ?_ ?_); rotate_left; (focus (simp [retA, retL, ret1, lk, st, ldA, AV.cell]; rfl)); (try simp [*]))
@[simp] def g_equal17 : List AV → Option (AV × Bool)
  | [.agg [.v (.int .i64 N), a0], .agg [.v (.int .i64 M), a1]] => (match toRows a0 with | some L => (match toRows a1 with | some K => if (okI N && okRows L && okI M && okRows K) = true then some (.v (.bool (thSame N L M K)), false) else none | none => none) | none => none)
  | _ => none
theorem e_equal17 : EntOk Tryd.prog 23 g_equal17 := ent_pure (by kernel_rfl) fun args r fr h => by
  unfold g_equal17 at h
  split at h
  · rename_i N a0 M a1
    split at h
    · rename_i L t0
      split at h
      · rename_i K t1
        split at h
        · rename_i hc
          simp only [Bool.and_eq_true] at hc
          obtain ⟨⟨⟨m0, o0⟩, m1⟩, o1⟩ := hc
          cases h
          exact ⟨FnPure.cov (equal17_p N L M K o0 o1) (.cons (cov_th _ (cov_rows t0)) (.cons (cov_th _ (cov_rows t1)) .nil)), rfl⟩
        · cases h
      · cases h
    · cases h
  · cases h

end Go.Proofs.YtafikekndefjcaaDoor
