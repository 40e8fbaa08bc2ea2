/- theory.Check and the document's Check on any rows that the machine has; no condition. -/
import Derived.Test.YtekeidhndlnghaaPt16
import Derived.Test.YtekeidhndlnghaaWa
import Derived.Test.YtekeidhndlnghaaCvG
namespace Go.Proofs.Ytekeidhndlnghaa
set_option linter.unusedVariables false
set_option linter.unusedSimpArgs false
set_option linter.unusedSectionVars false
open Go.RowKit
attribute [local simp] List.getD_cons_zero List.getD_cons_succ List.getD_nil undef gvars runL runE effA stepA dstOk wantA core lk st dl AS.ev AS.evs AS.put AS.upd updO updI nxt cPick cAlloc cBox cBuild cBuildS cLoad cStore cNil plainOf cBin cNilS isNilS nilA cUn cConvX cConvB cConv bytesOf rowB cMake cSlice slA idxA cFA cF cIA cIX cIS cI cExt cLen cApp cMM cFun cCall lenA lenM isNilM nilM cNilM cMakeM hintB cMapK cLook foundR lookR cUpd putM cDel delM findA isKeyB Instr.sameNow AS.entry AS.bound AS.callee sc1 sc2 ixOk ldA AV.flat AV.cell AV.cells Value.oneCell' fillA spl chunk zeros AS.parts AS.rows AS.shut AS.shut1 AS.shut2 AS.shutL AS.shutM AV.ids idsL idsLL eqAll bndA AV.scalar AV.scalar1 AV.isV Ef.app Ef.pk ptOf pntO wrO wr
attribute [-simp] List.getD_eq_getElem?_getD
set_option maxRecDepth 100000
theorem checkRow_ok {N : Int} {c : List Int} (h1 : c.length ≤ 128) (h2 : ∀ i, i < c.length → litOk (c.getD i 0) N = true) : checkRow N c = 0 := by
  unfold checkRow
  rw [if_neg (by omega), if_pos]
  refine List.all_eq_true.2 fun x hx => ?_
  obtain ⟨i, hi, rfl⟩ := List.getElem_of_mem hx
  have := h2 i hi
  simpa [List.getD, hi] using this
theorem checkRow_bad {N : Int} {c : List Int} {i : Nat} (h1 : c.length ≤ 128) (hi : i < c.length) (h2 : litOk (c.getD i 0) N = false) : checkRow N c = 1 := by
  unfold checkRow
  rw [if_neg (by omega), if_neg]
  intro h
  have := List.all_eq_true.1 h _ (getD_memI hi)
  rw [h2] at this; cases this
theorem checkT_row {N : Int} {L : List (List Int)} (h0 : ¬ (N < 0 ∨ 128 < N)) (h1 : L.length ≤ 4096) : checkT N L = checkRows N L := by
  unfold checkT; rw [if_neg h0, if_neg (by omega)]
set_option maxHeartbeats 1000000 in
theorem check_w (N : Int) (L : List (List Int)) (hL : okLens L = true) : FnPure Try.prog 47 [aTh N L] (.v (.int .i64 (checkT N L))) := by
  have hm := okLens_len hL
  unfold aTh
  by_cases hN1 : N < 0
  · have hres : checkT N L = 6 := by unfold checkT; rw [if_pos (.inl hN1)]
    rw [hres]
    refine fn_sp TT_ok Try.func47 (c := _) rfl (by simp [Try.ntmps47]) (fun B hI0 hro => ?_)
    rw [Try.ntmps47]
    simp only [enumA]
    refine amGo PT1_ok (h := ?_)
    ((refine post_ret (av := ?_) (by first | exact .inl rfl | exact .inr rfl) (show (Try.f47).results.toList = _ from by rw [Try.results47]) ?_ ?_); rotate_left; (focus (simp [retA, retL, ret1, lk, st, ldA, AV.cell]; rfl)); (try simp [*]))
  by_cases hN2 : 128 < N
  · have hres : checkT N L = 6 := by unfold checkT; rw [if_pos (.inr hN2)]
    rw [hres]
    refine fn_sp TT_ok Try.func47 (c := _) rfl (by simp [Try.ntmps47]) (fun B hI0 hro => ?_)
    rw [Try.ntmps47]
    simp only [enumA]
    refine amGo PT1_ok (h := ?_)
    ((refine post_ret (av := ?_) (by first | exact .inl rfl | exact .inr rfl) (show (Try.f47).results.toList = _ from by rw [Try.results47]) ?_ ?_); rotate_left; (focus (simp [retA, retL, ret1, lk, st, ldA, AV.cell]; rfl)); (try simp [*]))
  by_cases hl : 4096 < L.length
  · have hres : checkT N L = 2 := by unfold checkT; rw [if_neg (by omega), if_pos hl]
    rw [hres]
    have hli : (4096 : Int) < (L.length : Int) := by omega
    refine fn_sp TT_ok Try.func47 (c := _) rfl (by simp [Try.ntmps47]) (fun B hI0 hro => ?_)
    rw [Try.ntmps47]
    simp only [enumA]
    refine amGo PT1_ok (h := ?_)
    ((refine post_ret (av := ?_) (by first | exact .inl rfl | exact .inr rfl) (show (Try.f47).results.toList = _ from by rw [Try.results47]) ?_ ?_); rotate_left; (focus (simp [retA, retL, ret1, lk, st, ldA, AV.cell]; rfl)); (try simp [*]))
  have hli : ¬ ((4096 : Int) < (L.length : Int)) := by omega
  have hct := checkT_row (N := N) (L := L) (by omega) (by omega)
  have hN : okI N = true := okI_iff.2 ⟨by omega, by omega⟩
  have hN3 : 0 ≤ N := by omega
  have hN4 : N ≤ 128 := by omega
  refine fn_sp TT_ok Try.func47 (c := _) rfl (by simp [Try.ntmps47]) (fun B hI0 hro => ?_)
  rw [Try.ntmps47]
  simp only [enumA]
  refine amGo PT1_ok (h := ?_)
  refine s_loop (J := fun i : {k : Nat // k ≤ L.length ∧ ∀ j, j < k → checkRow N (L.getD j []) = 0} => ⟨42, [(1, .ptr 0 0 0), (2, .v (.int .i64 0)), (20, aRows L), (21, .v (.int .i64 (L.length : Int))), (22, .v (.int .i64 (i.1 : Int)))], [(0, ⟨24, 2, [[.v (.int .i64 N), aRows L]]⟩)], [0]⟩) (μ := fun i => L.length - i.1) ⟨0, Nat.zero_le _, fun j hj => by omega⟩ ?_ (fun ⟨k, hk, hgk⟩ => ?_)
  · (refine weak_id rfl ?_ ?_ <;> ((try simp only [List.mem_cons, List.not_mem_nil, or_false, forall_eq_or_imp, forall_eq]); (try simp (disch := omega) [i64w, *])))
  refine amStr (h := ?_)
  refine amReg PT1_ok (h := ?_)
  refine amStr (h := ?_)
  (focus ((with_reducible refine sp_cond (b := ?_) ?_ (fun hc => ?_) (fun hc => ?_)); rotate_left; (focus (first | rfl | (simp [lk, AS.ev]; rfl))); all_goals (try simp at hc)))
  · have hkk := hc
    clear hc
    have hat := checkRows_at N L k hkk hgk
    have hnx : checkRow N (L.getD k []) = 0 → ∀ j, j < k + 1 → checkRow N (L.getD j []) = 0 := fun h j hj => by
      by_cases e : j = k
      · subst e; exact h
      · exact hgk j (by omega)
    have hwk : IntKind.i64.wrap ((k : Int) + 1) = (k : Int) + 1 := i64s k (by omega)
    have hci := okLens_at hL k
    obtain ⟨c, hcc⟩ : ∃ c, L.getD k [] = c := ⟨_, rfl⟩
    rw [hcc] at hat hnx hci
    have hcl := okIL_len hci
    by_cases h128 : 128 < c.length
    · have hres : checkRow N c = 2 := by unfold checkRow; rw [if_pos h128]
      rw [hres] at hat
      have hat2 := hat (by decide)
      rw [hct, hat2]
      clear hat hnx
      have h128i : (128 : Int) < (c.length : Int) := by omega
      refine amGo PT1_ok (h := ?_)
      ((refine post_ret (av := ?_) (by first | exact .inl rfl | exact .inr rfl) (show (Try.f47).results.toList = _ from by rw [Try.results47]) ?_ ?_); rotate_left; (focus (simp [retA, retL, ret1, lk, st, ldA, AV.cell]; rfl)); (try simp [*]))
    · have h128i : ¬ ((128 : Int) < (c.length : Int)) := by omega
      refine amStr (h := ?_)
      refine amReg PT1_ok (h := ?_)
      refine amStr (h := ?_)
      refine amReg PT1_ok (h := ?_)
      refine amStr (h := ?_)
      refine amReg PT1_ok (h := ?_)
      refine amStr (h := ?_)
      refine s_loop (J := fun q : {i : Nat // i ≤ c.length ∧ ∀ j, j < i → litOk (c.getD j 0) N = true} => ⟨42, [(1, .ptr 0 0 0), (2, .v (.int .i64 0)), (20, aRows L), (21, .v (.int .i64 (L.length : Int))), (22, .v (.int .i64 (k : Int))), (29, aInts c), (30, .v (.int .i64 (c.length : Int))), (31, .v (.int .i64 (q.1 : Int)))], [(0, ⟨24, 2, [[.v (.int .i64 N), aRows L]]⟩)], [0]⟩) (μ := fun q => c.length - q.1) ⟨0, Nat.zero_le _, fun j hj => by omega⟩ ?_ (fun ⟨i, hi, hgi⟩ => ?_)
      · (refine weak_id rfl ?_ ?_ <;> ((try simp only [List.mem_cons, List.not_mem_nil, or_false, forall_eq_or_imp, forall_eq]); (try simp (disch := omega) [i64w, *])))
      refine amStr (h := ?_)
      refine amReg PT1_ok (h := ?_)
      refine amStr (h := ?_)
      (focus ((with_reducible refine sp_cond (b := ?_) ?_ (fun hc => ?_) (fun hc => ?_)); rotate_left; (focus (first | rfl | (simp [lk, AS.ev]; rfl))); all_goals (try simp at hc)))
      · have hii := hc
        clear hc
        have hx := okInts_mem (okInts_il hci (by omega)) _ (getD_memI hii)
        have hbad := checkRow_bad (N := N) (by omega) hii
        have hng : litOk (c.getD i 0) N = true → ∀ j, j < i + 1 → litOk (c.getD j 0) N = true := fun h j hj => by
          by_cases e : j = i
          · subst e; exact h
          · exact hgi j (by omega)
        have hwi : IntKind.i64.wrap ((i : Int) + 1) = (i : Int) + 1 := i64s i (by omega)
        obtain ⟨x, hxe⟩ : ∃ x, c.getD i 0 = x := ⟨_, rfl⟩
        rw [hxe] at hx hbad hng
        cases hq : litOk x N
        · have hb := hbad hq
          rw [hb] at hat
          have hat2 := hat (by decide)
          rw [hct, hat2]
          clear hat hnx hbad hng
          refine amGo PT1_ok (h := ?_)
          ((refine post_ret (av := ?_) (by first | exact .inl rfl | exact .inr rfl) (show (Try.f47).results.toList = _ from by rw [Try.results47]) ?_ ?_); rotate_left; (focus (simp [retA, retL, ret1, lk, st, ldA, AV.cell]; rfl)); (try simp [*]))
        · have hgn := hng hq
          clear hat hnx hbad hng
          refine amGo PT1_ok (h := ?_)
          refine k_lp (⟨i + 1, by omega, hgn⟩ : {i : Nat // i ≤ c.length ∧ ∀ j, j < i → litOk (c.getD j 0) N = true}) (by show c.length - (i + 1) < c.length - i; omega) ?_
          (refine weak_id rfl ?_ ?_ <;> ((try simp only [List.mem_cons, List.not_mem_nil, or_false, forall_eq_or_imp, forall_eq]); (try simp (disch := omega) [i64w, *])))
      · obtain rfl : i = c.length := by omega
        clear hc
        have hgn := hnx (checkRow_ok (by omega) hgi)
        clear hat hnx
        refine amGo PT1_ok (h := ?_)
        refine k_lp (⟨k + 1, by omega, hgn⟩ : {k : Nat // k ≤ L.length ∧ ∀ j, j < k → checkRow N (L.getD j []) = 0}) (by show L.length - (k + 1) < L.length - k; omega) ?_
        (refine weak_id rfl ?_ ?_ <;> ((try simp only [List.mem_cons, List.not_mem_nil, or_false, forall_eq_or_imp, forall_eq]); (try simp (disch := omega) [i64w, *])))
  · obtain rfl : k = L.length := by omega
    clear hc
    have hres := checkRows_all N L hgk
    rw [hct, hres]
    refine amGo PT1_ok (h := ?_)
    ((refine post_ret (av := ?_) (by first | exact .inl rfl | exact .inr rfl) (show (Try.f47).results.toList = _ from by rw [Try.results47]) ?_ ?_); rotate_left; (focus (simp [retA, retL, ret1, lk, st, ldA, AV.cell]; rfl)); (try simp [*]))
set_option maxHeartbeats 1000000 in
theorem rCheck_w (N : Int) (L : List (List Int)) (hL : okLens L = true) : FnPure Try.prog 43 [aTh N L] (.v (.int .i64 (checkT N L))) := by
  have hm := okLens_len hL
  unfold aTh
  by_cases hN1 : N < 0
  · have hres : checkT N L = 6 := by unfold checkT; rw [if_pos (.inl hN1)]
    rw [hres]
    refine fn_sp TT_ok Try.func43 (c := _) rfl (by simp [Try.ntmps43]) (fun B hI0 hro => ?_)
    rw [Try.ntmps43]
    simp only [enumA]
    refine amGo PT1_ok (h := ?_)
    ((refine post_ret (av := ?_) (by first | exact .inl rfl | exact .inr rfl) (show (Try.f43).results.toList = _ from by rw [Try.results43]) ?_ ?_); rotate_left; (focus (simp [retA, retL, ret1, lk, st, ldA, AV.cell]; rfl)); (try simp [*]))
  by_cases hN2 : 128 < N
  · have hres : checkT N L = 6 := by unfold checkT; rw [if_pos (.inr hN2)]
    rw [hres]
    refine fn_sp TT_ok Try.func43 (c := _) rfl (by simp [Try.ntmps43]) (fun B hI0 hro => ?_)
    rw [Try.ntmps43]
    simp only [enumA]
    refine amGo PT1_ok (h := ?_)
    ((refine post_ret (av := ?_) (by first | exact .inl rfl | exact .inr rfl) (show (Try.f43).results.toList = _ from by rw [Try.results43]) ?_ ?_); rotate_left; (focus (simp [retA, retL, ret1, lk, st, ldA, AV.cell]; rfl)); (try simp [*]))
  by_cases hl : 4096 < L.length
  · have hres : checkT N L = 2 := by unfold checkT; rw [if_neg (by omega), if_pos hl]
    rw [hres]
    have hli : (4096 : Int) < (L.length : Int) := by omega
    refine fn_sp TT_ok Try.func43 (c := _) rfl (by simp [Try.ntmps43]) (fun B hI0 hro => ?_)
    rw [Try.ntmps43]
    simp only [enumA]
    refine amGo PT1_ok (h := ?_)
    ((refine post_ret (av := ?_) (by first | exact .inl rfl | exact .inr rfl) (show (Try.f43).results.toList = _ from by rw [Try.results43]) ?_ ?_); rotate_left; (focus (simp [retA, retL, ret1, lk, st, ldA, AV.cell]; rfl)); (try simp [*]))
  have hli : ¬ ((4096 : Int) < (L.length : Int)) := by omega
  have hct := checkT_row (N := N) (L := L) (by omega) (by omega)
  have hN : okI N = true := okI_iff.2 ⟨by omega, by omega⟩
  have hN3 : 0 ≤ N := by omega
  have hN4 : N ≤ 128 := by omega
  refine fn_sp TT_ok Try.func43 (c := _) rfl (by simp [Try.ntmps43]) (fun B hI0 hro => ?_)
  rw [Try.ntmps43]
  simp only [enumA]
  refine amGo PT1_ok (h := ?_)
  refine s_loop (J := fun i : {k : Nat // k ≤ L.length ∧ ∀ j, j < k → checkRow N (L.getD j []) = 0} => ⟨53, [(1, .ptr 0 0 0), (2, .v (.int .i64 0)), (3, .v (.int .i64 (i.1 : Int)))], [(0, ⟨24, 2, [[.v (.int .i64 N), aRows L]]⟩)], [0]⟩) (μ := fun i => L.length - i.1) ⟨0, Nat.zero_le _, fun j hj => by omega⟩ ?_ (fun ⟨k, hk, hgk⟩ => ?_)
  · (refine weak_id rfl ?_ ?_ <;> ((try simp only [List.mem_cons, List.not_mem_nil, or_false, forall_eq_or_imp, forall_eq]); (try simp (disch := omega) [i64w, *])))
  refine amStr (h := ?_)
  refine amReg PT1_ok (h := ?_)
  refine amStr (h := ?_)
  (focus ((with_reducible refine sp_cond (b := ?_) ?_ (fun hc => ?_) (fun hc => ?_)); rotate_left; (focus (first | rfl | (simp [lk, AS.ev]; rfl))); all_goals (try simp at hc)))
  · have hkk := hc
    clear hc
    have hat := checkRows_at N L k hkk hgk
    have hnx : checkRow N (L.getD k []) = 0 → ∀ j, j < k + 1 → checkRow N (L.getD j []) = 0 := fun h j hj => by
      by_cases e : j = k
      · subst e; exact h
      · exact hgk j (by omega)
    have hwk : IntKind.i64.wrap ((k : Int) + 1) = (k : Int) + 1 := i64s k (by omega)
    have hci := okLens_at hL k
    obtain ⟨c, hcc⟩ : ∃ c, L.getD k [] = c := ⟨_, rfl⟩
    rw [hcc] at hat hnx hci
    have hcl := okIL_len hci
    by_cases h128 : 128 < c.length
    · have hres : checkRow N c = 2 := by unfold checkRow; rw [if_pos h128]
      rw [hres] at hat
      have hat2 := hat (by decide)
      rw [hct, hat2]
      clear hat hnx
      have h128i : (128 : Int) < (c.length : Int) := by omega
      refine amGo PT1_ok (h := ?_)
      ((refine post_ret (av := ?_) (by first | exact .inl rfl | exact .inr rfl) (show (Try.f43).results.toList = _ from by rw [Try.results43]) ?_ ?_); rotate_left; (focus (simp [retA, retL, ret1, lk, st, ldA, AV.cell]; rfl)); (try simp [*]))
    · have h128i : ¬ ((128 : Int) < (c.length : Int)) := by omega
      refine amStr (h := ?_)
      refine amReg PT1_ok (h := ?_)
      refine amStr (h := ?_)
      refine amReg PT1_ok (h := ?_)
      refine amStr (h := ?_)
      refine s_loop (J := fun q : {i : Nat // i ≤ c.length ∧ ∀ j, j < i → litOk (c.getD j 0) N = true} => ⟨53, [(1, .ptr 0 0 0), (2, .v (.int .i64 0)), (3, .v (.int .i64 (k : Int))), (4, .v (.int .i64 (q.1 : Int)))], [(0, ⟨24, 2, [[.v (.int .i64 N), aRows L]]⟩)], [0]⟩) (μ := fun q => c.length - q.1) ⟨0, Nat.zero_le _, fun j hj => by omega⟩ ?_ (fun ⟨i, hi, hgi⟩ => ?_)
      · (refine weak_id rfl ?_ ?_ <;> ((try simp only [List.mem_cons, List.not_mem_nil, or_false, forall_eq_or_imp, forall_eq]); (try simp (disch := omega) [i64w, *])))
      refine amStr (h := ?_)
      refine amReg PT1_ok (h := ?_)
      refine amStr (h := ?_)
      (focus ((with_reducible refine sp_cond (b := ?_) ?_ (fun hc => ?_) (fun hc => ?_)); rotate_left; (focus (first | rfl | (simp [lk, AS.ev]; rfl))); all_goals (try simp at hc)))
      · have hii := hc
        clear hc
        have hx := okInts_mem (okInts_il hci (by omega)) _ (getD_memI hii)
        have hbad := checkRow_bad (N := N) (by omega) hii
        have hng : litOk (c.getD i 0) N = true → ∀ j, j < i + 1 → litOk (c.getD j 0) N = true := fun h j hj => by
          by_cases e : j = i
          · subst e; exact h
          · exact hgi j (by omega)
        have hwi : IntKind.i64.wrap ((i : Int) + 1) = (i : Int) + 1 := i64s i (by omega)
        obtain ⟨x, hxe⟩ : ∃ x, c.getD i 0 = x := ⟨_, rfl⟩
        rw [hxe] at hx hbad hng
        cases hq : litOk x N
        · have hb := hbad hq
          rw [hb] at hat
          have hat2 := hat (by decide)
          rw [hct, hat2]
          clear hat hnx hbad hng
          refine amGo PT1_ok (h := ?_)
          ((refine post_ret (av := ?_) (by first | exact .inl rfl | exact .inr rfl) (show (Try.f43).results.toList = _ from by rw [Try.results43]) ?_ ?_); rotate_left; (focus (simp [retA, retL, ret1, lk, st, ldA, AV.cell]; rfl)); (try simp [*]))
        · have hgn := hng hq
          clear hat hnx hbad hng
          refine amGo PT1_ok (h := ?_)
          refine k_lp (⟨i + 1, by omega, hgn⟩ : {i : Nat // i ≤ c.length ∧ ∀ j, j < i → litOk (c.getD j 0) N = true}) (by show c.length - (i + 1) < c.length - i; omega) ?_
          (refine weak_id rfl ?_ ?_ <;> ((try simp only [List.mem_cons, List.not_mem_nil, or_false, forall_eq_or_imp, forall_eq]); (try simp (disch := omega) [i64w, *])))
      · obtain rfl : i = c.length := by omega
        clear hc
        have hgn := hnx (checkRow_ok (by omega) hgi)
        clear hat hnx
        refine amGo PT1_ok (h := ?_)
        refine k_lp (⟨k + 1, by omega, hgn⟩ : {k : Nat // k ≤ L.length ∧ ∀ j, j < k → checkRow N (L.getD j []) = 0}) (by show L.length - (k + 1) < L.length - k; omega) ?_
        (refine weak_id rfl ?_ ?_ <;> ((try simp only [List.mem_cons, List.not_mem_nil, or_false, forall_eq_or_imp, forall_eq]); (try simp (disch := omega) [i64w, *])))
  · obtain rfl : k = L.length := by omega
    clear hc
    have hres := checkRows_all N L hgk
    rw [hct, hres]
    refine amGo PT1_ok (h := ?_)
    ((refine post_ret (av := ?_) (by first | exact .inl rfl | exact .inr rfl) (show (Try.f43).results.toList = _ from by rw [Try.results43]) ?_ ?_); rotate_left; (focus (simp [retA, retL, ret1, lk, st, ldA, AV.cell]; rfl)); (try simp [*]))
end Go.Proofs.Ytekeidhndlnghaa
