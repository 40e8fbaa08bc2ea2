/- theory.Check and the document's Check on any rows that the machine has; no condition. -/
import Derived.Test.YtekeidhndlnghaaPt16
import Derived.Test.YtekeidhndlnghaaWa
import Derived.Test.YtekeidhndlnghaaCvG
import Derived.Test.YtekeidhndlnghaaFw16
import Derived.Test.YtekeidhndlnghaaAe16
import Derived.Test.YtekeidhndlnghaaApG
/- Cw16: theory.Check and the document's Check on any rows that the machine has; no condition. -/
namespace Go.Proofs.Ytekeidhndlnghaa
set_option linter.unusedVariables false
set_option linter.unusedSimpArgs false
set_option linter.unusedSectionVars false
open Go.RowKit
attribute [local simp] List.getD_cons_zero List.getD_cons_succ List.getD_nil undef gvars runL runE effA stepA dstOk wantA core lk st dl AS.ev AS.evs AS.put AS.upd updO updI nxt cPick cAlloc cBox cBuild cBuildS cLoad cStore cNil plainOf cBin cNilS isNilS nilA cUn cConvX cConvB cConv bytesOf rowB cMake cSlice slA idxA cFA cF cIA cIX cIS cI cExt cLen cApp cMM cFun cCall lenA lenM isNilM nilM cNilM cMakeM hintB cMapK cLook foundR lookR cUpd putM cDel delM findA isKeyB Instr.sameNow AS.entry AS.bound AS.callee sc1 sc2 ixOk ldA AV.flat AV.cell AV.cells Value.oneCell' fillA spl chunk zeros AS.parts AS.rows AS.shut AS.shut1 AS.shut2 AS.shutL AS.shutM AV.ids idsL idsLL eqAll bndA AV.scalar AV.scalar1 AV.isV Ef.app Ef.pk ptOf pntO wrO wr
attribute [-simp] List.getD_eq_getElem?_getD
set_option maxRecDepth 100000
theorem checkRow_ok {N : Int} {c : List Int} (h1 : c.length ≤ 128) (h2 : ∀ i, i < c.length → litOk (c.getD i 0) N = true) : checkRow N c = 0 := by
  unfold checkRow
  rw [if_neg (by omega), if_pos]
  refine List.all_eq_true.2 fun x hx => ?_
  obtain ⟨i, hi, rfl⟩ := List.getElem_of_mem hx
  have := h2 i hi
  simpa [List.getD, hi] using this
theorem checkRow_bad {N : Int} {c : List Int} {i : Nat} (h1 : c.length ≤ 128) (hi : i < c.length) (h2 : litOk (c.getD i 0) N = false) : checkRow N c = 1 := by
  unfold checkRow
  rw [if_neg (by omega), if_neg]
  intro h
  have := List.all_eq_true.1 h _ (getD_memI hi)
  rw [h2] at this; cases this
theorem checkT_row {N : Int} {L : List (List Int)} (h0 : ¬ (N < 0 ∨ 128 < N)) (h1 : L.length ≤ 4096) : checkT N L = checkRows N L := by
  unfold checkT; rw [if_neg h0, if_neg (by omega)]
set_option maxHeartbeats 1000000 in
theorem check_w (N : Int) (L : List (List Int)) (hL : okLens L = true) : FnPure Try.prog 47 [aTh N L] (.v (.int .i64 (checkT N L))) := by
  have hm := okLens_len hL
  unfold aTh
  by_cases hN1 : N < 0
  · have hres : checkT N L = 6 := by unfold checkT; rw [if_pos (.inl hN1)]
    rw [hres]
    refine fn_sp TT_ok Try.func47 (c := _) rfl (by simp [Try.ntmps47]) (fun B hI0 hro => ?_)
    rw [Try.ntmps47]
    simp only [enumA]
    refine amGo PT1_ok (h := ?_)
    ((refine post_ret (av := ?_) (by first | exact .inl rfl | exact .inr rfl) (show (Try.f47).results.toList = _ from by rw [Try.results47]) ?_ ?_); rotate_left; (focus (simp [retA, retL, ret1, lk, st, ldA, AV.cell]; rfl)); (try simp [*]))
  by_cases hN2 : 128 < N
  · have hres : checkT N L = 6 := by unfold checkT; rw [if_pos (.inr hN2)]
    rw [hres]
    refine fn_sp TT_ok Try.func47 (c := _) rfl (by simp [Try.ntmps47]) (fun B hI0 hro => ?_)
    rw [Try.ntmps47]
    simp only [enumA]
    refine amGo PT1_ok (h := ?_)
    ((refine post_ret (av := ?_) (by first | exact .inl rfl | exact .inr rfl) (show (Try.f47).results.toList = _ from by rw [Try.results47]) ?_ ?_); rotate_left; (focus (simp [retA, retL, ret1, lk, st, ldA, AV.cell]; rfl)); (try simp [*]))
  by_cases hl : 4096 < L.length
  · have hres : checkT N L = 2 := by unfold checkT; rw [if_neg (by omega), if_pos hl]
    rw [hres]
    have hli : (4096 : Int) < (L.length : Int) := by omega
    refine fn_sp TT_ok Try.func47 (c := _) rfl (by simp [Try.ntmps47]) (fun B hI0 hro => ?_)
    rw [Try.ntmps47]
    simp only [enumA]
    refine amGo PT1_ok (h := ?_)
    ((refine post_ret (av := ?_) (by first | exact .inl rfl | exact .inr rfl) (show (Try.f47).results.toList = _ from by rw [Try.results47]) ?_ ?_); rotate_left; (focus (simp [retA, retL, ret1, lk, st, ldA, AV.cell]; rfl)); (try simp [*]))
  have hli : ¬ ((4096 : Int) < (L.length : Int)) := by omega
  have hct := checkT_row (N := N) (L := L) (by omega) (by omega)
  have hN : okI N = true := okI_iff.2 ⟨by omega, by omega⟩
  have hN3 : 0 ≤ N := by omega
  have hN4 : N ≤ 128 := by omega
  refine fn_sp TT_ok Try.func47 (c := _) rfl (by simp [Try.ntmps47]) (fun B hI0 hro => ?_)
  rw [Try.ntmps47]
  simp only [enumA]
  refine amGo PT1_ok (h := ?_)
  refine s_loop (J := fun i : {k : Nat // k ≤ L.length ∧ ∀ j, j < k → checkRow N (L.getD j []) = 0} => ⟨42, [(1, .ptr 0 0 0), (2, .v (.int .i64 0)), (20, aRows L), (21, .v (.int .i64 (L.length : Int))), (22, .v (.int .i64 (i.1 : Int)))], [(0, ⟨24, 2, [[.v (.int .i64 N), aRows L]]⟩)], [0]⟩) (μ := fun i => L.length - i.1) ⟨0, Nat.zero_le _, fun j hj => by omega⟩ ?_ (fun ⟨k, hk, hgk⟩ => ?_)
  · (refine weak_id rfl ?_ ?_ <;> ((try simp only [List.mem_cons, List.not_mem_nil, or_false, forall_eq_or_imp, forall_eq]); (try simp (disch := omega) [i64w, *])))
  refine amStr (h := ?_)
  refine amReg PT1_ok (h := ?_)
  refine amStr (h := ?_)
  (focus ((with_reducible refine sp_cond (b := ?_) ?_ (fun hc => ?_) (fun hc => ?_)); rotate_left; (focus (first | rfl | (simp [lk, AS.ev]; rfl))); all_goals (try simp at hc)))
  · have hkk := hc
    clear hc
    have hat := checkRows_at N L k hkk hgk
    have hnx : checkRow N (L.getD k []) = 0 → ∀ j, j < k + 1 → checkRow N (L.getD j []) = 0 := fun h j hj => by
      by_cases e : j = k
      · subst e; exact h
      · exact hgk j (by omega)
    have hwk : IntKind.i64.wrap ((k : Int) + 1) = (k : Int) + 1 := i64s k (by omega)
    have hci := okLens_at hL k
    obtain ⟨c, hcc⟩ : ∃ c, L.getD k [] = c := ⟨_, rfl⟩
    rw [hcc] at hat hnx hci
    have hcl := okIL_len hci
    by_cases h128 : 128 < c.length
    · have hres : checkRow N c = 2 := by unfold checkRow; rw [if_pos h128]
      rw [hres] at hat
      have hat2 := hat (by decide)
      rw [hct, hat2]
      clear hat hnx
      have h128i : (128 : Int) < (c.length : Int) := by omega
      refine amGo PT1_ok (h := ?_)
      ((refine post_ret (av := ?_) (by first | exact .inl rfl | exact .inr rfl) (show (Try.f47).results.toList = _ from by rw [Try.results47]) ?_ ?_); rotate_left; (focus (simp [retA, retL, ret1, lk, st, ldA, AV.cell]; rfl)); (try simp [*]))
    · have h128i : ¬ ((128 : Int) < (c.length : Int)) := by omega
      refine amStr (h := ?_)
      refine amReg PT1_ok (h := ?_)
      refine amStr (h := ?_)
      refine amReg PT1_ok (h := ?_)
      refine amStr (h := ?_)
      refine amReg PT1_ok (h := ?_)
      refine amStr (h := ?_)
      refine s_loop (J := fun q : {i : Nat // i ≤ c.length ∧ ∀ j, j < i → litOk (c.getD j 0) N = true} => ⟨42, [(1, .ptr 0 0 0), (2, .v (.int .i64 0)), (20, aRows L), (21, .v (.int .i64 (L.length : Int))), (22, .v (.int .i64 (k : Int))), (29, aInts c), (30, .v (.int .i64 (c.length : Int))), (31, .v (.int .i64 (q.1 : Int)))], [(0, ⟨24, 2, [[.v (.int .i64 N), aRows L]]⟩)], [0]⟩) (μ := fun q => c.length - q.1) ⟨0, Nat.zero_le _, fun j hj => by omega⟩ ?_ (fun ⟨i, hi, hgi⟩ => ?_)
      · (refine weak_id rfl ?_ ?_ <;> ((try simp only [List.mem_cons, List.not_mem_nil, or_false, forall_eq_or_imp, forall_eq]); (try simp (disch := omega) [i64w, *])))
      refine amStr (h := ?_)
      refine amReg PT1_ok (h := ?_)
      refine amStr (h := ?_)
      (focus ((with_reducible refine sp_cond (b := ?_) ?_ (fun hc => ?_) (fun hc => ?_)); rotate_left; (focus (first | rfl | (simp [lk, AS.ev]; rfl))); all_goals (try simp at hc)))
      · have hii := hc
        clear hc
        have hx := okInts_mem (okInts_il hci (by omega)) _ (getD_memI hii)
        have hbad := checkRow_bad (N := N) (by omega) hii
        have hng : litOk (c.getD i 0) N = true → ∀ j, j < i + 1 → litOk (c.getD j 0) N = true := fun h j hj => by
          by_cases e : j = i
          · subst e; exact h
          · exact hgi j (by omega)
        have hwi : IntKind.i64.wrap ((i : Int) + 1) = (i : Int) + 1 := i64s i (by omega)
        obtain ⟨x, hxe⟩ : ∃ x, c.getD i 0 = x := ⟨_, rfl⟩
        rw [hxe] at hx hbad hng
        cases hq : litOk x N
        · have hb := hbad hq
          rw [hb] at hat
          have hat2 := hat (by decide)
          rw [hct, hat2]
          clear hat hnx hbad hng
          refine amGo PT1_ok (h := ?_)
          ((refine post_ret (av := ?_) (by first | exact .inl rfl | exact .inr rfl) (show (Try.f47).results.toList = _ from by rw [Try.results47]) ?_ ?_); rotate_left; (focus (simp [retA, retL, ret1, lk, st, ldA, AV.cell]; rfl)); (try simp [*]))
        · have hgn := hng hq
          clear hat hnx hbad hng
          refine amGo PT1_ok (h := ?_)
          refine k_lp (⟨i + 1, by omega, hgn⟩ : {i : Nat // i ≤ c.length ∧ ∀ j, j < i → litOk (c.getD j 0) N = true}) (by show c.length - (i + 1) < c.length - i; omega) ?_
          (refine weak_id rfl ?_ ?_ <;> ((try simp only [List.mem_cons, List.not_mem_nil, or_false, forall_eq_or_imp, forall_eq]); (try simp (disch := omega) [i64w, *])))
      · obtain rfl : i = c.length := by omega
        clear hc
        have hgn := hnx (checkRow_ok (by omega) hgi)
        clear hat hnx
        refine amGo PT1_ok (h := ?_)
        refine k_lp (⟨k + 1, by omega, hgn⟩ : {k : Nat // k ≤ L.length ∧ ∀ j, j < k → checkRow N (L.getD j []) = 0}) (by show L.length - (k + 1) < L.length - k; omega) ?_
        (refine weak_id rfl ?_ ?_ <;> ((try simp only [List.mem_cons, List.not_mem_nil, or_false, forall_eq_or_imp, forall_eq]); (try simp (disch := omega) [i64w, *])))
  · obtain rfl : k = L.length := by omega
    clear hc
    have hres := checkRows_all N L hgk
    rw [hct, hres]
    refine amGo PT1_ok (h := ?_)
    ((refine post_ret (av := ?_) (by first | exact .inl rfl | exact .inr rfl) (show (Try.f47).results.toList = _ from by rw [Try.results47]) ?_ ?_); rotate_left; (focus (simp [retA, retL, ret1, lk, st, ldA, AV.cell]; rfl)); (try simp [*]))
set_option maxHeartbeats 1000000 in
theorem rCheck_w (N : Int) (L : List (List Int)) (hL : okLens L = true) : FnPure Try.prog 43 [aTh N L] (.v (.int .i64 (checkT N L))) := by
  have hm := okLens_len hL
  unfold aTh
  by_cases hN1 : N < 0
  · have hres : checkT N L = 6 := by unfold checkT; rw [if_pos (.inl hN1)]
    rw [hres]
    refine fn_sp TT_ok Try.func43 (c := _) rfl (by simp [Try.ntmps43]) (fun B hI0 hro => ?_)
    rw [Try.ntmps43]
    simp only [enumA]
    refine amGo PT1_ok (h := ?_)
    ((refine post_ret (av := ?_) (by first | exact .inl rfl | exact .inr rfl) (show (Try.f43).results.toList = _ from by rw [Try.results43]) ?_ ?_); rotate_left; (focus (simp [retA, retL, ret1, lk, st, ldA, AV.cell]; rfl)); (try simp [*]))
  by_cases hN2 : 128 < N
  · have hres : checkT N L = 6 := by unfold checkT; rw [if_pos (.inr hN2)]
    rw [hres]
    refine fn_sp TT_ok Try.func43 (c := _) rfl (by simp [Try.ntmps43]) (fun B hI0 hro => ?_)
    rw [Try.ntmps43]
    simp only [enumA]
    refine amGo PT1_ok (h := ?_)
    ((refine post_ret (av := ?_) (by first | exact .inl rfl | exact .inr rfl) (show (Try.f43).results.toList = _ from by rw [Try.results43]) ?_ ?_); rotate_left; (focus (simp [retA, retL, ret1, lk, st, ldA, AV.cell]; rfl)); (try simp [*]))
  by_cases hl : 4096 < L.length
  · have hres : checkT N L = 2 := by unfold checkT; rw [if_neg (by omega), if_pos hl]
    rw [hres]
    have hli : (4096 : Int) < (L.length : Int) := by omega
    refine fn_sp TT_ok Try.func43 (c := _) rfl (by simp [Try.ntmps43]) (fun B hI0 hro => ?_)
    rw [Try.ntmps43]
    simp only [enumA]
    refine amGo PT1_ok (h := ?_)
    ((refine post_ret (av := ?_) (by first | exact .inl rfl | exact .inr rfl) (show (Try.f43).results.toList = _ from by rw [Try.results43]) ?_ ?_); rotate_left; (focus (simp [retA, retL, ret1, lk, st, ldA, AV.cell]; rfl)); (try simp [*]))
  have hli : ¬ ((4096 : Int) < (L.length : Int)) := by omega
  have hct := checkT_row (N := N) (L := L) (by omega) (by omega)
  have hN : okI N = true := okI_iff.2 ⟨by omega, by omega⟩
  have hN3 : 0 ≤ N := by omega
  have hN4 : N ≤ 128 := by omega
  refine fn_sp TT_ok Try.func43 (c := _) rfl (by simp [Try.ntmps43]) (fun B hI0 hro => ?_)
  rw [Try.ntmps43]
  simp only [enumA]
  refine amGo PT1_ok (h := ?_)
  refine s_loop (J := fun i : {k : Nat // k ≤ L.length ∧ ∀ j, j < k → checkRow N (L.getD j []) = 0} => ⟨53, [(1, .ptr 0 0 0), (2, .v (.int .i64 0)), (3, .v (.int .i64 (i.1 : Int)))], [(0, ⟨24, 2, [[.v (.int .i64 N), aRows L]]⟩)], [0]⟩) (μ := fun i => L.length - i.1) ⟨0, Nat.zero_le _, fun j hj => by omega⟩ ?_ (fun ⟨k, hk, hgk⟩ => ?_)
  · (refine weak_id rfl ?_ ?_ <;> ((try simp only [List.mem_cons, List.not_mem_nil, or_false, forall_eq_or_imp, forall_eq]); (try simp (disch := omega) [i64w, *])))
  refine amStr (h := ?_)
  refine amReg PT1_ok (h := ?_)
  refine amStr (h := ?_)
  (focus ((with_reducible refine sp_cond (b := ?_) ?_ (fun hc => ?_) (fun hc => ?_)); rotate_left; (focus (first | rfl | (simp [lk, AS.ev]; rfl))); all_goals (try simp at hc)))
  · have hkk := hc
    clear hc
    have hat := checkRows_at N L k hkk hgk
    have hnx : checkRow N (L.getD k []) = 0 → ∀ j, j < k + 1 → checkRow N (L.getD j []) = 0 := fun h j hj => by
      by_cases e : j = k
      · subst e; exact h
      · exact hgk j (by omega)
    have hwk : IntKind.i64.wrap ((k : Int) + 1) = (k : Int) + 1 := i64s k (by omega)
    have hci := okLens_at hL k
    obtain ⟨c, hcc⟩ : ∃ c, L.getD k [] = c := ⟨_, rfl⟩
    rw [hcc] at hat hnx hci
    have hcl := okIL_len hci
    by_cases h128 : 128 < c.length
    · have hres : checkRow N c = 2 := by unfold checkRow; rw [if_pos h128]
      rw [hres] at hat
      have hat2 := hat (by decide)
      rw [hct, hat2]
      clear hat hnx
      have h128i : (128 : Int) < (c.length : Int) := by omega
      refine amGo PT1_ok (h := ?_)
      ((refine post_ret (av := ?_) (by first | exact .inl rfl | exact .inr rfl) (show (Try.f43).results.toList = _ from by rw [Try.results43]) ?_ ?_); rotate_left; (focus (simp [retA, retL, ret1, lk, st, ldA, AV.cell]; rfl)); (try simp [*]))
    · have h128i : ¬ ((128 : Int) < (c.length : Int)) := by omega
      refine amStr (h := ?_)
      refine amReg PT1_ok (h := ?_)
      refine amStr (h := ?_)
      refine amReg PT1_ok (h := ?_)
      refine amStr (h := ?_)
      refine s_loop (J := fun q : {i : Nat // i ≤ c.length ∧ ∀ j, j < i → litOk (c.getD j 0) N = true} => ⟨53, [(1, .ptr 0 0 0), (2, .v (.int .i64 0)), (3, .v (.int .i64 (k : Int))), (4, .v (.int .i64 (q.1 : Int)))], [(0, ⟨24, 2, [[.v (.int .i64 N), aRows L]]⟩)], [0]⟩) (μ := fun q => c.length - q.1) ⟨0, Nat.zero_le _, fun j hj => by omega⟩ ?_ (fun ⟨i, hi, hgi⟩ => ?_)
      · (refine weak_id rfl ?_ ?_ <;> ((try simp only [List.mem_cons, List.not_mem_nil, or_false, forall_eq_or_imp, forall_eq]); (try simp (disch := omega) [i64w, *])))
      refine amStr (h := ?_)
      refine amReg PT1_ok (h := ?_)
      refine amStr (h := ?_)
      (focus ((with_reducible refine sp_cond (b := ?_) ?_ (fun hc => ?_) (fun hc => ?_)); rotate_left; (focus (first | rfl | (simp [lk, AS.ev]; rfl))); all_goals (try simp at hc)))
      · have hii := hc
        clear hc
        have hx := okInts_mem (okInts_il hci (by omega)) _ (getD_memI hii)
        have hbad := checkRow_bad (N := N) (by omega) hii
        have hng : litOk (c.getD i 0) N = true → ∀ j, j < i + 1 → litOk (c.getD j 0) N = true := fun h j hj => by
          by_cases e : j = i
          · subst e; exact h
          · exact hgi j (by omega)
        have hwi : IntKind.i64.wrap ((i : Int) + 1) = (i : Int) + 1 := i64s i (by omega)
        obtain ⟨x, hxe⟩ : ∃ x, c.getD i 0 = x := ⟨_, rfl⟩
        rw [hxe] at hx hbad hng
        cases hq : litOk x N
        · have hb := hbad hq
          rw [hb] at hat
          have hat2 := hat (by decide)
          rw [hct, hat2]
          clear hat hnx hbad hng
          refine amGo PT1_ok (h := ?_)
          ((refine post_ret (av := ?_) (by first | exact .inl rfl | exact .inr rfl) (show (Try.f43).results.toList = _ from by rw [Try.results43]) ?_ ?_); rotate_left; (focus (simp [retA, retL, ret1, lk, st, ldA, AV.cell]; rfl)); (try simp [*]))
        · have hgn := hng hq
          clear hat hnx hbad hng
          refine amGo PT1_ok (h := ?_)
          refine k_lp (⟨i + 1, by omega, hgn⟩ : {i : Nat // i ≤ c.length ∧ ∀ j, j < i → litOk (c.getD j 0) N = true}) (by show c.length - (i + 1) < c.length - i; omega) ?_
          (refine weak_id rfl ?_ ?_ <;> ((try simp only [List.mem_cons, List.not_mem_nil, or_false, forall_eq_or_imp, forall_eq]); (try simp (disch := omega) [i64w, *])))
      · obtain rfl : i = c.length := by omega
        clear hc
        have hgn := hnx (checkRow_ok (by omega) hgi)
        clear hat hnx
        refine amGo PT1_ok (h := ?_)
        refine k_lp (⟨k + 1, by omega, hgn⟩ : {k : Nat // k ≤ L.length ∧ ∀ j, j < k → checkRow N (L.getD j []) = 0}) (by show L.length - (k + 1) < L.length - k; omega) ?_
        (refine weak_id rfl ?_ ?_ <;> ((try simp only [List.mem_cons, List.not_mem_nil, or_false, forall_eq_or_imp, forall_eq]); (try simp (disch := omega) [i64w, *])))
  · obtain rfl : k = L.length := by omega
    clear hc
    have hres := checkRows_all N L hgk
    rw [hct, hres]
    refine amGo PT1_ok (h := ?_)
    ((refine post_ret (av := ?_) (by first | exact .inl rfl | exact .inr rfl) (show (Try.f43).results.toList = _ from by rw [Try.results43]) ?_ ?_); rotate_left; (focus (simp [retA, retL, ret1, lk, st, ldA, AV.cell]; rfl)); (try simp [*]))
end Go.Proofs.Ytekeidhndlnghaa
/- Cx16: Where the theory is not valid: rows of any length; no condition. -/
namespace Go.Proofs.Ytekeidhndlnghaa
set_option linter.unusedVariables false
set_option linter.unusedSimpArgs false
set_option linter.unusedSectionVars false
open Go.RowKit
attribute [local simp] List.getD_cons_zero List.getD_cons_succ List.getD_nil undef gvars runL runE effA stepA dstOk wantA core lk st dl AS.ev AS.evs AS.put AS.upd updO updI nxt cPick cAlloc cBox cBuild cBuildS cLoad cStore cNil plainOf cBin cNilS isNilS nilA cUn cConvX cConvB cConv bytesOf rowB cMake cSlice slA idxA cFA cF cIA cIX cIS cI cExt cLen cApp cMM cFun cCall lenA lenM isNilM nilM cNilM cMakeM hintB cMapK cLook foundR lookR cUpd putM cDel delM findA isKeyB Instr.sameNow AS.entry AS.bound AS.callee sc1 sc2 ixOk ldA AV.flat AV.cell AV.cells Value.oneCell' fillA spl chunk zeros AS.parts AS.rows AS.shut AS.shut1 AS.shut2 AS.shutL AS.shutM AV.ids idsL idsLL eqAll bndA AV.scalar AV.scalar1 AV.isV Ef.app Ef.pk ptOf pntO wrO wr
attribute [-simp] List.getD_eq_getElem?_getD
set_option maxRecDepth 100000
@[simp] def g_checkW : List AV → Option (AV × Bool)
  | [.agg [.v (.int .i64 N), a0]] => (match toRows a0 with | some L => if (okLens L) = true then some (.v (.int .i64 (checkT N L)), false) else none | none => none)
  | _ => none
theorem e_checkW : EntOk Try.prog 47 g_checkW := ent_pure (by kernel_rfl) fun args r fr h => by
  unfold g_checkW at h
  split at h
  · rename_i N a0
    split at h
    · rename_i L t0
      split at h
      · rename_i hc
        have o0 := hc
        cases h
        exact ⟨FnPure.cov (check_w N L o0) (.cons (cov_th _ (cov_rows t0)) .nil), rfl⟩
      · cases h
    · cases h
  · cases h

@[simp] def g_rCheckW : List AV → Option (AV × Bool)
  | [.agg [.v (.int .i64 N), a0]] => (match toRows a0 with | some L => if (okLens L) = true then some (.v (.int .i64 (checkT N L)), false) else none | none => none)
  | _ => none
theorem e_rCheckW : EntOk Try.prog 43 g_rCheckW := ent_pure (by kernel_rfl) fun args r fr h => by
  unfold g_rCheckW at h
  split at h
  · rename_i N a0
    split at h
    · rename_i L t0
      split at h
      · rename_i hc
        have o0 := hc
        cases h
        exact ⟨FnPure.cov (rCheck_w N L o0) (.cons (cov_th _ (cov_rows t0)) .nil), rfl⟩
      · cases h
    · cases h
  · cases h

def l89 : List (FuncId × (List AV → Option (AV × Bool))) :=
  (47, g_checkW) :: (43, g_rCheckW) :: l1
theorem l89_ok : ∀ p ∈ l89, EntOk Try.prog p.1 p.2 := ent_cons e_checkW (ent_cons e_rCheckW (l1_ok))
def PT89 : PTab := tab l89
theorem PT89_ok : PTok Try.prog PT89 := tab_ok l89_ok
@[simp] theorem PT89_checkW : PT89 47 = g_checkW := rfl
@[simp] theorem PT89_rCheckW : PT89 43 = g_rCheckW := rfl
theorem checked_e (N : Int) (L : List (List Int)) (ts : List Int) (hL : okLens L = true) (hz : ¬ checkT N L = 0) : FnPure Try.prog 27 [aTh N L, aInts ts] (.tup [.v (.slice none 0 0), .v (.int .i64 1)]) := by
  unfold aTh
  refine fn_sp TT_ok Try.func27 (c := _) rfl (by simp [Try.ntmps27]) (fun B hI0 hro => ?_)
  rw [Try.ntmps27]
  simp only [enumA]
  refine amGo PT89_ok (h := ?_)
  ((refine post_ret (av := ?_) (by first | exact .inl rfl | exact .inr rfl) (show (Try.f27).results.toList = _ from by rw [Try.results27]) ?_ ?_); rotate_left; (focus (simp [retA, retL, ret1, lk, st, ldA, AV.cell]; rfl)); (try simp [*]))
theorem valid_e (N : Int) (L : List (List Int)) (ts : List Int) (hL : okLens L = true) (hz : ¬ checkT N L = 0) : FnPure Try.prog 34 [aTh N L, aInts ts] (.v (.bool false)) := by
  have hzb : (checkT N L == 0) = false := by simpa using hz
  unfold aTh
  refine fn_sp TT_ok Try.func34 (c := _) rfl (by simp [Try.ntmps34]) (fun B hI0 hro => ?_)
  rw [Try.ntmps34]
  simp only [enumA]
  refine amGo PT89_ok (h := ?_)
  ((refine post_ret (av := ?_) (by first | exact .inl rfl | exact .inr rfl) (show (Try.f34).results.toList = _ from by rw [Try.results34]) ?_ ?_); rotate_left; (focus (simp [retA, retL, ret1, lk, st, ldA, AV.cell]; rfl)); (try simp [*]))
end Go.Proofs.Ytekeidhndlnghaa
/- Cy16: Where the theory is not valid: parts.Alone and the document's, parts.Split and the document's; no condition. -/
namespace Go.Proofs.Ytekeidhndlnghaa
set_option linter.unusedVariables false
set_option linter.unusedSimpArgs false
set_option linter.unusedSectionVars false
open Go.RowKit
attribute [local simp] List.getD_cons_zero List.getD_cons_succ List.getD_nil undef gvars runL runE effA stepA dstOk wantA core lk st dl AS.ev AS.evs AS.put AS.upd updO updI nxt cPick cAlloc cBox cBuild cBuildS cLoad cStore cNil plainOf cBin cNilS isNilS nilA cUn cConvX cConvB cConv bytesOf rowB cMake cSlice slA idxA cFA cF cIA cIX cIS cI cExt cLen cApp cMM cFun cCall lenA lenM isNilM nilM cNilM cMakeM hintB cMapK cLook foundR lookR cUpd putM cDel delM findA isKeyB Instr.sameNow AS.entry AS.bound AS.callee sc1 sc2 ixOk ldA AV.flat AV.cell AV.cells Value.oneCell' fillA spl chunk zeros AS.parts AS.rows AS.shut AS.shut1 AS.shut2 AS.shutL AS.shutM AV.ids idsL idsLL eqAll bndA AV.scalar AV.scalar1 AV.isV Ef.app Ef.pk ptOf pntO wrO wr
attribute [-simp] List.getD_eq_getElem?_getD
set_option maxRecDepth 100000
@[simp] def g_pChkE : List AV → Option (AV × Bool)
  | [.agg [.v (.int .i64 N), a0], a1] => (match toRows a0 with | some L => (match toInts a1 with | some ts => if (okLens L && okIL ts && decide (¬ checkT N L = 0)) = true then some (.tup [.v (.slice none 0 0), .v (.int .i64 1)], false) else none | none => none) | none => none)
  | _ => none
theorem e_pChkE : EntOk Try.prog 27 g_pChkE := ent_pure (by kernel_rfl) fun args r fr h => by
  unfold g_pChkE at h
  split at h
  · rename_i N a0 a1
    split at h
    · rename_i L t0
      split at h
      · rename_i ts t1
        split at h
        · rename_i hc
          simp only [Bool.and_eq_true] at hc
          obtain ⟨⟨o0, o1⟩, hk⟩ := hc
          cases h
          exact ⟨FnPure.cov (checked_e N L ts o0 (of_decide_eq_true hk)) (.cons (cov_th _ (cov_rows t0)) (.cons (cov_ints t1) .nil)), rfl⟩
        · cases h
      · cases h
    · cases h
  · cases h

@[simp] def g_r6ValidE : List AV → Option (AV × Bool)
  | [.agg [.v (.int .i64 N), a0], a1] => (match toRows a0 with | some L => (match toInts a1 with | some ts => if (okLens L && okIL ts && decide (¬ checkT N L = 0)) = true then some (.v (.bool false), false) else none | none => none) | none => none)
  | _ => none
theorem e_r6ValidE : EntOk Try.prog 34 g_r6ValidE := ent_pure (by kernel_rfl) fun args r fr h => by
  unfold g_r6ValidE at h
  split at h
  · rename_i N a0 a1
    split at h
    · rename_i L t0
      split at h
      · rename_i ts t1
        split at h
        · rename_i hc
          simp only [Bool.and_eq_true] at hc
          obtain ⟨⟨o0, o1⟩, hk⟩ := hc
          cases h
          exact ⟨FnPure.cov (valid_e N L ts o0 (of_decide_eq_true hk)) (.cons (cov_th _ (cov_rows t0)) (.cons (cov_ints t1) .nil)), rfl⟩
        · cases h
      · cases h
    · cases h
  · cases h

def l90 : List (FuncId × (List AV → Option (AV × Bool))) :=
  (27, g_pChkE) :: (34, g_r6ValidE) :: l1
theorem l90_ok : ∀ p ∈ l90, EntOk Try.prog p.1 p.2 := ent_cons e_pChkE (ent_cons e_r6ValidE (l1_ok))
def PT90 : PTab := tab l90
theorem PT90_ok : PTok Try.prog PT90 := tab_ok l90_ok
@[simp] theorem PT90_pChkE : PT90 27 = g_pChkE := rfl
@[simp] theorem PT90_r6ValidE : PT90 34 = g_r6ValidE := rfl
theorem alone_e (N : Int) (L : List (List Int)) (ts cs : List Int) (s : BitVec 128) (hL : okLens L = true) (ht : okIL ts = true) (hz : ¬ checkT N L = 0) : FnPure Try.prog 17 [aTh N L, aInts ts, aPart s cs] alnE := by
  unfold aTh aPart alnE
  refine fn_sp TT_ok Try.func17 (c := _) rfl (by simp [Try.ntmps17]) (fun B hI0 hro => ?_)
  rw [Try.ntmps17]
  simp only [enumA]
  refine amGo PT90_ok (h := ?_)
  ((refine post_ret (av := ?_) (by first | exact .inl rfl | exact .inr rfl) (show (Try.f17).results.toList = _ from by rw [Try.results17]) ?_ ?_); rotate_left; (focus (simp [retA, retL, ret1, lk, st, ldA, AV.cell]; rfl)); (try simp [*]))
theorem rAlone_e (N : Int) (L : List (List Int)) (ts cs : List Int) (hL : okLens L = true) (ht : okIL ts = true) (hz : ¬ checkT N L = 0) : FnPure Try.prog 18 [aTh N L, aInts ts, aInts cs] alnE := by
  unfold aTh alnE
  refine fn_sp TT_ok Try.func18 (c := _) rfl (by simp [Try.ntmps18]) (fun B hI0 hro => ?_)
  rw [Try.ntmps18]
  simp only [enumA]
  refine amGo PT90_ok (h := ?_)
  ((refine post_ret (av := ?_) (by first | exact .inl rfl | exact .inr rfl) (show (Try.f18).results.toList = _ from by rw [Try.results18]) ?_ ?_); rotate_left; (focus (simp [retA, retL, ret1, lk, st, ldA, AV.cell]; rfl)); (try simp [*]))
def splE : AV := .tup [.v (.slice none 0 0), .agg [.v (.int .u64 0), .v (.int .u64 0)], .v (.int .i64 1)]
theorem split_e (N : Int) (L : List (List Int)) (ts : List Int) (hL : okLens L = true) (ht : okIL ts = true) (hz : ¬ checkT N L = 0) : FnPure Try.prog 12 [aTh N L, aInts ts] splE := by
  unfold aTh splE
  refine fn_sp TT_ok Try.func12 (c := _) rfl (by simp [Try.ntmps12]) (fun B hI0 hro => ?_)
  rw [Try.ntmps12]
  simp only [enumA]
  refine amGo PT90_ok (h := ?_)
  ((refine post_ret (av := ?_) (by first | exact .inl rfl | exact .inr rfl) (show (Try.f12).results.toList = _ from by rw [Try.results12]) ?_ ?_); rotate_left; (focus (simp [retA, retL, ret1, lk, st, ldA, AV.cell]; rfl)); (try simp [*]))
theorem rSplit_e (N : Int) (L : List (List Int)) (ts : List Int) (hL : okLens L = true) (ht : okIL ts = true) (hz : ¬ checkT N L = 0) : FnPure Try.prog 13 [aTh N L, aInts ts] splE := by
  unfold aTh splE
  refine fn_sp TT_ok Try.func13 (c := _) rfl (by simp [Try.ntmps13]) (fun B hI0 hro => ?_)
  rw [Try.ntmps13]
  simp only [enumA]
  refine amGo PT90_ok (h := ?_)
  ((refine post_ret (av := ?_) (by first | exact .inl rfl | exact .inr rfl) (show (Try.f13).results.toList = _ from by rw [Try.results13]) ?_ ?_); rotate_left; (focus (simp [retA, retL, ret1, lk, st, ldA, AV.cell]; rfl)); (try simp [*]))
end Go.Proofs.Ytekeidhndlnghaa
