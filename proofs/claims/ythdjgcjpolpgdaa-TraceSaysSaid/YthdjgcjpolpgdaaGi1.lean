/- Contract of theory.Given, by the abstract machine; no condition. -/
import Derived.Test.YthdjgcjpolpgdaaThG
import Derived.Test.YthdjgcjpolpgdaaNil
namespace Go.Proofs.Ythdjgcjpolpgdaa
set_option linter.unusedVariables false
set_option linter.unusedSimpArgs false
set_option linter.unusedSectionVars false
open Go.RowKit
attribute [local simp] List.getD_cons_zero List.getD_cons_succ List.getD_nil undef gvars runL runE effA stepA dstOk wantA core lk st dl AS.ev AS.evs AS.put AS.upd updO updI nxt cPick cAlloc cBox cBuild cBuildS cLoad cStore cNil plainOf cBin cNilS isNilS nilA cUn cConvX cConvB cConv bytesOf rowB cMake cSlice slA idxA cFA cF cIA cIX cIS cI cExt cLen cApp cMM cFun cCall lenA lenM isNilM nilM cNilM cMakeM hintB cMapK cLook foundR lookR cUpd putM cDel delM findA isKeyB Instr.sameNow AS.entry AS.bound AS.callee sc1 sc2 ixOk ldA AV.flat AV.cell AV.cells Value.oneCell' fillA spl chunk zeros AS.parts AS.rows AS.shut AS.shut1 AS.shut2 AS.shutL AS.shutM AV.ids idsL idsLL eqAll bndA AV.scalar AV.scalar1 AV.isV Ef.app Ef.pk ptOf pntO wrO wr
set_option maxRecDepth 100000

/-- What is left of rows, given a term. -/
def openC (ts c : List Int) : Bool := !(c.any fun l => decide (l ∈ ts))
def restC (ts c : List Int) : List Int := c.filter fun l => !decide (-l ∈ ts)
def givenK (ts : List Int) (L : List (List Int)) (k : Nat) : List (List Int) := ((L.take k).filter (openC ts)).map (restC ts)
def givenT (ts : List Int) (L : List (List Int)) : List (List Int) := (L.filter (openC ts)).map (restC ts)
def givenA (N : Int) (L : List (List Int)) (ts : List Int) : AV := if checkT N L = 0 then (if termR N ts = true then .tup [aTh N (givenT ts L), .v (.int .i64 0)] else .tup [.agg [.v (.int .i64 0), .v (.slice none 0 0)], .v (.int .i64 1)]) else .tup [.agg [.v (.int .i64 0), .v (.slice none 0 0)], .v (.int .i64 (checkT N L))]
theorem altK_iff {ts : List Int} : ∀ {k : Nat}, altK ts k = true ↔ ∃ i : Nat, i < k ∧ ((i : Int) + 1) ∈ ts ∧ -((i : Int) + 1) ∈ ts := by
  intro k
  unfold altK
  simp only [List.any_eq_true, List.mem_range, Bool.and_eq_true, decide_eq_true_eq]
theorem term_some {N : Int} {ts : List Int} (hN : 0 ≤ N ∧ N ≤ 128) : (termL ts N).isSome = termR N ts := by
  unfold termL
  by_cases hv : (ts.all fun y => litOk y N) = true
  · have hv' := List.all_eq_true.1 hv
    rw [hv, adjOpp_altK hN hv', Bool.true_and]
    cases ha : altK ts N.toNat
    · have : termR N ts = true := by
        unfold termR
        rw [List.all_eq_true]
        intro x hx
        obtain ⟨r1, r2, r3, r4, r5⟩ := litOk_range (hv' x hx)
        rw [hv' x hx, Bool.true_and, Bool.not_eq_true', decide_eq_false_iff_not]
        intro hm
        have : altK ts N.toNat = true := by
          rw [altK_iff]
          by_cases hx0 : 0 < x
          · exact ⟨(x - 1).toNat, by omega, by rw [show (((x - 1).toNat : Nat) : Int) + 1 = x by omega]; exact hx, by rw [show (((x - 1).toNat : Nat) : Int) + 1 = x by omega]; exact hm⟩
          · exact ⟨(-x - 1).toNat, by omega, by rw [show (((-x - 1).toNat : Nat) : Int) + 1 = -x by omega]; exact hm, by rw [show (((-x - 1).toNat : Nat) : Int) + 1 = -x by omega, Int.neg_neg]; exact hx⟩
        rw [ha] at this; cases this
      rw [this]; rfl
    · obtain ⟨i, hi, h1, h2⟩ := altK_iff.1 ha
      have : termR N ts = false := by
        unfold termR
        rw [List.all_eq_false]
        refine ⟨_, h1, ?_⟩
        rw [decide_eq_true h2]; simp
      rw [this]; rfl
  · have hv2 : (ts.all fun y => litOk y N) = false := by simpa using hv
    have : termR N ts = false := by
      unfold termR
      rw [List.all_eq_false] at hv2 ⊢
      obtain ⟨x, hx, h⟩ := hv2
      exact ⟨x, hx, by simp at h; simp [h]⟩
    rw [hv2, this]; rfl
theorem givenK_succ {ts : List Int} {L : List (List Int)} {k : Nat} (hk : k < L.length) : givenK ts L (k + 1) = if openC ts (L.getD k []) = true then givenK ts L k ++ [restC ts (L.getD k [])] else givenK ts L k := by
  have : L.getD k [] = L[k] := by simp [List.getD, hk]
  unfold givenK
  rw [List.take_succ_eq_append_getElem hk, List.filter_append, List.map_append, this]
  by_cases h : openC ts L[k] = true
  · rw [if_pos h]; simp [h]
  · rw [if_neg h]; simp [h]
theorem givenK_len (ts : List Int) (L : List (List Int)) (k : Nat) : (givenK ts L k).length ≤ k := by
  unfold givenK
  rw [List.length_map]
  exact Nat.le_trans (List.length_filter_le _ _) (by simp; omega)
theorem restC_succ {ts c : List Int} {j : Nat} (hj : j < c.length) : restC ts (c.take (j + 1)) = if -(c.getD j 0) ∈ ts then restC ts (c.take j) else restC ts (c.take j) ++ [c.getD j 0] := by
  have : c.getD j 0 = c[j] := by simp [List.getD, hj]
  unfold restC
  rw [List.take_succ_eq_append_getElem hj, List.filter_append, this]
  by_cases h : -c[j] ∈ ts
  · rw [if_pos h]; simp [h]
  · rw [if_neg h]; simp [h]
theorem restC_len (ts c : List Int) : (restC ts c).length ≤ c.length := List.length_filter_le _ _
theorem known_of {objs : List (Nat × AObj)} {ids : List Nat} (h : ∀ p ∈ objs, p.1 ∈ ids ∧ ∀ q ∈ idsLL p.2.xs, q ∈ ids) : Known objs ids := fun k ob hk => h (k, ob) (mem_lk hk)
/-- Which literals are true: the array's cells. -/
def isK (ts : List Int) (k : Nat) : List AV := bRow 257 fun i => decide ((i : Int) - 128 ∈ ts.take k)
@[simp ↓ high] theorem d_is_len (ts : List Int) (k : Nat) : (isK ts k).length = 257 := d_len_b _ _
@[simp ↓ high] theorem d_is_ids (ts : List Int) (k : Nat) : idsL (isK ts k) = [] := d_ids_b _ _
@[simp ↓ high] theorem d_is_ren (ρ : Nat → Nat) (ts : List Int) (k : Nat) : renL ρ (isK ts k) = isK ts k := d_ren_b _ _ _
theorem take_mem_succ {ts : List Int} {k : Nat} (hk : k < ts.length) (y : Int) : y ∈ ts.take (k + 1) ↔ y ∈ ts.take k ∨ y = ts.getD k 0 := by
  have : ts.getD k 0 = ts[k] := by simp [List.getD, hk]
  rw [List.take_succ_eq_append_getElem hk, this, List.mem_append, List.mem_singleton]
@[simp high] theorem d_is_spl {ts : List Int} {k j : Nat} (hk : k < ts.length) (hj : 128 + ts.getD k 0 = (j : Int)) (hj2 : j < 257) : spl (isK ts k) j [.v (.bool true)] = isK ts (k + 1) := by
  unfold isK
  rw [b_spl true hj2]
  congr 1
  funext i
  by_cases e : i = j
  · subst e
    rw [if_pos rfl, eq_comm, decide_eq_true_eq, take_mem_succ hk]
    exact .inr (by omega)
  · rw [if_neg e, decide_eq_decide, take_mem_succ hk]
    constructor
    · exact .inl
    · rintro (h | h)
      · exact h
      · omega
theorem is_getD (ts : List Int) (k : Nat) {j : Nat} (hj : j < 257) : (isK ts k).getD j .any = .v (.bool (decide ((j : Int) - 128 ∈ ts.take k))) := fn_getD _ hj
@[simp high] theorem d_is_ld {ti : TI} {ts : List Int} {k j : Nat} (hg : ti.agg = false) (hj : j < 257) : ldA ti (List.drop j (isK ts k)) = .v (.bool (decide ((j : Int) - 128 ∈ ts.take k))) := ld_fn hg hj
theorem open11_looks (N : Int) (L : List (List Int)) (ts c : List Int) (objs : List (Nat × AObj)) (ids : List Nat) (hc : ∀ y ∈ c, -128 ≤ y ∧ y ≤ 128) (h8 : lk objs 8 = some ⟨102, 1, [[.ptr 2 0 0]]⟩) (h2 : lk objs 2 = some ⟨98, 257, [isK ts ts.length]⟩) : Looks Try.prog objs ids 96 [.ptr 8 0 0] (avI c) (onI fun y => decide (y ∈ ts)) := by
  refine ⟨by kernel_rfl, _, _, Try.func96, rfl, by simp [Try.ntmps96], fun x hxm B hI hro => ?_⟩
  obtain ⟨y, hy, rfl⟩ := List.mem_map.1 hxm
  obtain ⟨r1, r2⟩ := hc y hy
  have hw : IntKind.i64.wrap (128 + y) = 128 + y := i64w (by omega) (by omega)
  have hi0 : 0 ≤ 128 + y := by omega
  have hi1 : 128 + y < 257 := by omega
  have hmx : max (128 + y) 0 = 128 + y := by omega
  have hi2 : (128 + y).toNat < 257 := by omega
  have hi3 : 128 + y ≤ 256 := by omega
  have hy2 : 128 + y - 128 = y := by omega
  rw [Try.ntmps96, Try.results96]
  simp only [enumA]
  repeat (first | with_reducible first | refine s_seq ?_ | refine k_seq ?_ | refine k_seq_ret ?_ | refine k_seq_exit ?_ | refine k_blk ?_ | refine k_blk_ret ?_ | refine k_blk_exit ?_ | refine k_lp_ret ?_ | refine k_lp_exit ?_ | refine ki_lp_ret ?_ | refine ki_lp_exit ?_ | refine s_block ?_ | refine sp_skip ?_ | refine sp_ret ?_ | refine sp_exit ?_ | ((with_reducible refine k_blk_out ?_ ?_); (focus decide)) | ((with_reducible refine s_cond_t ?_ ?_); (focus (simp [-List.getD_eq_getElem?_getD, *]; done))) | ((with_reducible refine s_cond_f ?_ ?_); (focus (simp [-List.getD_eq_getElem?_getD, *]; done))) | (focus ((with_reducible refine s_region2 (q := ?_) (σ' := ?_) TT_ok PT15_ok ?_ ?_ ?_); rotate_left 2; (focus (first | (simp; exact Eq.refl _) | exact Eq.refl _)); (focus ((repeat (((with_reducible refine runL_cons (σ1 := ?_) ?_ ?_); rotate_left; (focus (simp [-List.getD_eq_getElem?_getD, *]; rfl))))); (exact runL_nil))))) | (focus ((with_reducible refine s_draw2 (q := ?_) (es := ?_) (σ' := ?_) prog_mixed TT_ok PT15_ok ?_ ?_ ?_ ?_); rotate_left 3; (focus (first | (simp; exact Eq.refl _) | exact Eq.refl _)); (focus ((repeat (((with_reducible refine runE_cons (e := ?_) (σ1 := ?_) (es := ?_) ?_ ?_ ?_); rotate_left 3; (focus (simp [-List.getD_eq_getElem?_getD, *]; exact Eq.refl _)); (focus (simp [-List.getD_eq_getElem?_getD]; exact Eq.refl _))))); (exact runE_nil))); (focus (first | kernel_rfl | decide)))))
  refine ⟨.inr rfl, ?_, rfl, rfl⟩
  simp [retA, retL, ret1, lk, st, onI]
  rw [← List.getD_eq_getElem?_getD, is_getD ts ts.length hi2, List.take_length, show (((128 + y).toNat : Nat) : Int) - 128 = y by omega]
theorem given_ok (N : Int) (L : List (List Int)) (ts : List Int) (hN : okI N = true) (h : okRows L = true) (ht : okInts ts = true) (hz : checkT N L = 0) (hr : termR N ts = true) : FnPure Try.prog 41 [aTh N L, aInts ts] (.tup [aTh N (givenT ts L), .v (.int .i64 0)]) := by
  have hck := checkT_ok hz
  have hm := okRows_len h
  have hmt := okInts_len ht
  have htm := term_some (ts := ts) ⟨hck.1, hck.2.1⟩
  rw [hr] at htm
  unfold aTh
  refine fn_sp TT_ok Try.func41 (c := _) rfl (by simp [Try.ntmps41]) (fun B hI0 hro => ?_)
  rw [Try.ntmps41]
  simp only [enumA]
  repeat (first | with_reducible first | refine s_seq ?_ | refine k_seq ?_ | refine k_seq_ret ?_ | refine k_seq_exit ?_ | refine k_blk ?_ | refine k_blk_ret ?_ | refine k_blk_exit ?_ | refine k_lp_ret ?_ | refine k_lp_exit ?_ | refine ki_lp_ret ?_ | refine ki_lp_exit ?_ | refine s_block ?_ | refine sp_skip ?_ | refine sp_ret ?_ | refine sp_exit ?_ | ((with_reducible refine k_blk_out ?_ ?_); (focus decide)) | ((with_reducible refine s_cond_t ?_ ?_); (focus (simp [-List.getD_eq_getElem?_getD, *]; done))) | ((with_reducible refine s_cond_f ?_ ?_); (focus (simp [-List.getD_eq_getElem?_getD, *]; done))) | (focus ((with_reducible refine s_region2 (q := ?_) (σ' := ?_) TT_ok PT15_ok ?_ ?_ ?_); rotate_left 2; (focus (first | (simp; exact Eq.refl _) | exact Eq.refl _)); (focus ((repeat (((with_reducible refine runL_cons (σ1 := ?_) ?_ ?_); rotate_left; (focus (simp [-List.getD_eq_getElem?_getD, *]; rfl))))); (exact runL_nil))))) | (focus ((with_reducible refine s_draw2 (q := ?_) (es := ?_) (σ' := ?_) prog_mixed TT_ok PT15_ok ?_ ?_ ?_ ?_); rotate_left 3; (focus (first | (simp; exact Eq.refl _) | exact Eq.refl _)); (focus ((repeat (((with_reducible refine runE_cons (e := ?_) (σ1 := ?_) (es := ?_) ?_ ?_ ?_); rotate_left 3; (focus (simp [-List.getD_eq_getElem?_getD, *]; exact Eq.refl _)); (focus (simp [-List.getD_eq_getElem?_getD]; exact Eq.refl _))))); (exact runE_nil))); (focus (first | kernel_rfl | decide)))))
  refine s_loop (J := fun i : {k : Nat // k ≤ ts.length} => ⟨72, [(2, .ptr 0 0 0), (4, .ptr 1 0 0), (9, .ptr 2 0 0), (33, aInts ts), (34, .v (.int .i64 (ts.length : Int))), (35, .v (.int .i64 (i.1 : Int)))], [(0, ⟨24, 2, [[.v (.int .i64 N), aRows L]]⟩), (1, ⟨24, 2, [[.v (.int .i64 0), .v (.slice none 0 0)]]⟩), (2, ⟨98, 257, [isK ts i.1]⟩)], [2, 1, 0]⟩) (μ := fun i => ts.length - i.1) ⟨0, Nat.zero_le _⟩ ?_ (fun ⟨k, hk⟩ => ?_)
  · (refine weak_id rfl ?_ ?_ <;> ((try simp only [List.mem_cons, List.not_mem_nil, or_false, forall_eq_or_imp, forall_eq]); (try simp (disch := omega) [-List.getD_eq_getElem?_getD, i64w, *])))
    kernel_rfl
  repeat (first | with_reducible first | refine s_seq ?_ | refine k_seq ?_ | refine k_seq_ret ?_ | refine k_seq_exit ?_ | refine k_blk ?_ | refine k_blk_ret ?_ | refine k_blk_exit ?_ | refine k_lp_ret ?_ | refine k_lp_exit ?_ | refine ki_lp_ret ?_ | refine ki_lp_exit ?_ | refine s_block ?_ | refine sp_skip ?_ | refine sp_ret ?_ | refine sp_exit ?_ | ((with_reducible refine k_blk_out ?_ ?_); (focus decide)) | ((with_reducible refine s_cond_t ?_ ?_); (focus (simp [-List.getD_eq_getElem?_getD, *]; done))) | ((with_reducible refine s_cond_f ?_ ?_); (focus (simp [-List.getD_eq_getElem?_getD, *]; done))) | (focus ((with_reducible refine s_region2 (q := ?_) (σ' := ?_) TT_ok PT15_ok ?_ ?_ ?_); rotate_left 2; (focus (first | (simp; exact Eq.refl _) | exact Eq.refl _)); (focus ((repeat (((with_reducible refine runL_cons (σ1 := ?_) ?_ ?_); rotate_left; (focus (simp [-List.getD_eq_getElem?_getD, *]; rfl))))); (exact runL_nil))))) | (focus ((with_reducible refine s_draw2 (q := ?_) (es := ?_) (σ' := ?_) prog_mixed TT_ok PT15_ok ?_ ?_ ?_ ?_); rotate_left 3; (focus (first | (simp; exact Eq.refl _) | exact Eq.refl _)); (focus ((repeat (((with_reducible refine runE_cons (e := ?_) (σ1 := ?_) (es := ?_) ?_ ?_ ?_); rotate_left 3; (focus (simp [-List.getD_eq_getElem?_getD, *]; exact Eq.refl _)); (focus (simp [-List.getD_eq_getElem?_getD]; exact Eq.refl _))))); (exact runE_nil))); (focus (first | kernel_rfl | decide)))))
  (focus ((with_reducible refine sp_cond (b := ?_) ?_ (fun hc => ?_) (fun hc => ?_)); rotate_left; (focus (first | rfl | (simp [lk, AS.ev]; rfl))); all_goals (try simp [-List.getD_eq_getElem?_getD] at hc)))
  · have hkk := hc
    clear hc
    obtain ⟨r1, r2, r3, r4, r5⟩ := litOk_range (show litOk (ts.getD k 0) N = true from (Bool.and_eq_true_iff.1 (List.all_eq_true.1 hr _ (getD_memI hkk))).1)
    have hw : IntKind.i64.wrap (128 + ts.getD k 0) = 128 + ts.getD k 0 := i64w (by omega) (by omega)
    have hi0 : 0 ≤ 128 + ts.getD k 0 := by omega
    have hi1 : 128 + ts.getD k 0 < 257 := by omega
    have hmx : max (128 + ts.getD k 0) 0 = 128 + ts.getD k 0 := by omega
    have hi2 : (128 + ts.getD k 0).toNat < 257 := by omega
    have hi3 : 128 + ts.getD k 0 ≤ 256 := by omega
    repeat (first | with_reducible first | refine s_seq ?_ | refine k_seq ?_ | refine k_seq_ret ?_ | refine k_seq_exit ?_ | refine k_blk ?_ | refine k_blk_ret ?_ | refine k_blk_exit ?_ | refine k_lp_ret ?_ | refine k_lp_exit ?_ | refine ki_lp_ret ?_ | refine ki_lp_exit ?_ | refine s_block ?_ | refine sp_skip ?_ | refine sp_ret ?_ | refine sp_exit ?_ | ((with_reducible refine k_blk_out ?_ ?_); (focus decide)) | ((with_reducible refine s_cond_t ?_ ?_); (focus (simp [-List.getD_eq_getElem?_getD, *]; done))) | ((with_reducible refine s_cond_f ?_ ?_); (focus (simp [-List.getD_eq_getElem?_getD, *]; done))) | (focus ((with_reducible refine s_region2 (q := ?_) (σ' := ?_) TT_ok PT15_ok ?_ ?_ ?_); rotate_left 2; (focus (first | (simp; exact Eq.refl _) | exact Eq.refl _)); (focus ((repeat (((with_reducible refine runL_cons (σ1 := ?_) ?_ ?_); rotate_left; (focus (simp [-List.getD_eq_getElem?_getD, *]; rfl))))); (exact runL_nil))))) | (focus ((with_reducible refine s_draw2 (q := ?_) (es := ?_) (σ' := ?_) prog_mixed TT_ok PT15_ok ?_ ?_ ?_ ?_); rotate_left 3; (focus (first | (simp; exact Eq.refl _) | exact Eq.refl _)); (focus ((repeat (((with_reducible refine runE_cons (e := ?_) (σ1 := ?_) (es := ?_) ?_ ?_ ?_); rotate_left 3; (focus (simp [-List.getD_eq_getElem?_getD, *]; exact Eq.refl _)); (focus (simp [-List.getD_eq_getElem?_getD]; exact Eq.refl _))))); (exact runE_nil))); (focus (first | kernel_rfl | decide)))))
    refine k_lp (⟨k + 1, by omega⟩ : {k : Nat // k ≤ ts.length}) (by dsimp only; omega) ?_
    (refine weak_id rfl ?_ ?_ <;> ((try simp only [List.mem_cons, List.not_mem_nil, or_false, forall_eq_or_imp, forall_eq]); (try simp (disch := omega) [-List.getD_eq_getElem?_getD, i64w, *])))
    have hs := d_is_spl (j := (128 + ts.getD k 0).toNat) hkk (by omega) hi2
    simp only [spl, List.append_assoc, List.singleton_append, List.length_cons, List.length_nil, Nat.zero_add] at hs
    exact hs
  · obtain rfl : k = ts.length := by omega
    repeat (first | with_reducible first | refine s_seq ?_ | refine k_seq ?_ | refine k_seq_ret ?_ | refine k_seq_exit ?_ | refine k_blk ?_ | refine k_blk_ret ?_ | refine k_blk_exit ?_ | refine k_lp_ret ?_ | refine k_lp_exit ?_ | refine ki_lp_ret ?_ | refine ki_lp_exit ?_ | refine s_block ?_ | refine sp_skip ?_ | refine sp_ret ?_ | refine sp_exit ?_ | ((with_reducible refine k_blk_out ?_ ?_); (focus decide)) | ((with_reducible refine s_cond_t ?_ ?_); (focus (simp [-List.getD_eq_getElem?_getD, *]; done))) | ((with_reducible refine s_cond_f ?_ ?_); (focus (simp [-List.getD_eq_getElem?_getD, *]; done))) | (focus ((with_reducible refine s_region2 (q := ?_) (σ' := ?_) TT_ok PT15_ok ?_ ?_ ?_); rotate_left 2; (focus (first | (simp; exact Eq.refl _) | exact Eq.refl _)); (focus ((repeat (((with_reducible refine runL_cons (σ1 := ?_) ?_ ?_); rotate_left; (focus (simp [-List.getD_eq_getElem?_getD, *]; rfl))))); (exact runL_nil))))) | (focus ((with_reducible refine s_draw2 (q := ?_) (es := ?_) (σ' := ?_) prog_mixed TT_ok PT15_ok ?_ ?_ ?_ ?_); rotate_left 3; (focus (first | (simp; exact Eq.refl _) | exact Eq.refl _)); (focus ((repeat (((with_reducible refine runE_cons (e := ?_) (σ1 := ?_) (es := ?_) ?_ ?_ ?_); rotate_left 3; (focus (simp [-List.getD_eq_getElem?_getD, *]; exact Eq.refl _)); (focus (simp [-List.getD_eq_getElem?_getD]; exact Eq.refl _))))); (exact runE_nil))); (focus (first | kernel_rfl | decide)))))
    refine s_regionL ?_
    ((iterate 1 (((with_reducible refine spl_step TT_ok PT15_ok (id := 0) (σ' := ?_) ?_ ?_); rotate_left; (focus (simp [-List.getD_eq_getElem?_getD, *]; rfl))))))
    refine spl_call TT_ok rfl rfl rfl (by kernel_rfl) Try.func70 rfl (avs := [.agg [.v (.int .i64 N), aRows L], .ptr 2 0 0]) (cs := []) rfl rfl (by simp [Try.ntmps70]) fun B' hI' hro' => ?_
    rw [Try.ntmps70, Try.results70]
    simp only [enumA, List.append_nil]
    repeat (first | with_reducible first | refine s_seq ?_ | refine k_seq ?_ | refine k_seq_ret ?_ | refine k_seq_exit ?_ | refine k_blk ?_ | refine k_blk_ret ?_ | refine k_blk_exit ?_ | refine k_lp_ret ?_ | refine k_lp_exit ?_ | refine ki_lp_ret ?_ | refine ki_lp_exit ?_ | refine s_block ?_ | refine sp_skip ?_ | refine sp_ret ?_ | refine sp_exit ?_ | ((with_reducible refine k_blk_out ?_ ?_); (focus decide)) | ((with_reducible refine s_cond_t ?_ ?_); (focus (simp [-List.getD_eq_getElem?_getD, *]; done))) | ((with_reducible refine s_cond_f ?_ ?_); (focus (simp [-List.getD_eq_getElem?_getD, *]; done))) | (focus ((with_reducible refine s_region2 (q := ?_) (σ' := ?_) TT_ok PT15_ok ?_ ?_ ?_); rotate_left 2; (focus (first | (simp; exact Eq.refl _) | exact Eq.refl _)); (focus ((repeat (((with_reducible refine runL_cons (σ1 := ?_) ?_ ?_); rotate_left; (focus (simp [-List.getD_eq_getElem?_getD, *]; rfl))))); (exact runL_nil))))) | (focus ((with_reducible refine s_draw2 (q := ?_) (es := ?_) (σ' := ?_) prog_mixed TT_ok PT15_ok ?_ ?_ ?_ ?_); rotate_left 3; (focus (first | (simp; exact Eq.refl _) | exact Eq.refl _)); (focus ((repeat (((with_reducible refine runE_cons (e := ?_) (σ1 := ?_) (es := ?_) ?_ ?_ ?_); rotate_left 3; (focus (simp [-List.getD_eq_getElem?_getD, *]; exact Eq.refl _)); (focus (simp [-List.getD_eq_getElem?_getD]; exact Eq.refl _))))); (exact runE_nil))); (focus (first | kernel_rfl | decide)))))
    refine ⟨.inr rfl, .clo 95 [.ptr 7 0 0, .ptr 8 0 0], ?_, ?_⟩
    · simp [retA, retL, ret1, lk]
    refine spl_nil ?_
    refine k_seq ?_
    refine s_block ?_
    (refine s_eq (τ := ?_) ?_ ?_; rotate_left; (focus ((try simp only [AS.frz, List.map_cons, List.map_nil]); (try simp [-List.getD_eq_getElem?_getD, frzV, frzO, frzC, List.filter]); rfl)))
    refine s_range TT_ok 9 (by simp) hro (f := 95) (cs := [.ptr 7 0 0, .ptr 8 0 0]) rfl (by kernel_rfl) Try.func95 rfl (by simp [Try.ntmps95]) (by simp) fun B1 hI1 hro1 hY => ?_
    rw [Try.ntmps95, Try.results95]
    simp only [enumA]
    refine s_cnil 6 0 1 10 25 1 rfl rfl (by simp) ?_ (by decide)
    (refine s_eq (τ := ?_) ?_ ?_; rotate_left; (focus ((try simp only [AS.frz, List.map_cons, List.map_nil]); (try simp [-List.getD_eq_getElem?_getD, frzV, frzO, frzC, List.filter]); rfl)))
    repeat (first | with_reducible first | refine s_seq ?_ | refine k_seq ?_ | refine k_seq_ret ?_ | refine k_seq_exit ?_ | refine k_blk ?_ | refine k_blk_ret ?_ | refine k_blk_exit ?_ | refine k_lp_ret ?_ | refine k_lp_exit ?_ | refine ki_lp_ret ?_ | refine ki_lp_exit ?_ | refine s_block ?_ | refine sp_skip ?_ | refine sp_ret ?_ | refine sp_exit ?_ | ((with_reducible refine k_blk_out ?_ ?_); (focus decide)) | ((with_reducible refine s_cond_t ?_ ?_); (focus (simp [-List.getD_eq_getElem?_getD, *]; done))) | ((with_reducible refine s_cond_f ?_ ?_); (focus (simp [-List.getD_eq_getElem?_getD, *]; done))) | (focus ((with_reducible refine s_region2 (q := ?_) (σ' := ?_) TT_ok PT15_ok ?_ ?_ ?_); rotate_left 2; (focus (first | (simp; exact Eq.refl _) | exact Eq.refl _)); (focus ((repeat (((with_reducible refine runL_cons (σ1 := ?_) ?_ ?_); rotate_left; (focus (simp [-List.getD_eq_getElem?_getD, *]; rfl))))); (exact runL_nil))))) | (focus ((with_reducible refine s_draw2 (q := ?_) (es := ?_) (σ' := ?_) prog_mixed TT_ok PT15_ok ?_ ?_ ?_ ?_); rotate_left 3; (focus (first | (simp; exact Eq.refl _) | exact Eq.refl _)); (focus ((repeat (((with_reducible refine runE_cons (e := ?_) (σ1 := ?_) (es := ?_) ?_ ?_ ?_); rotate_left 3; (focus (simp [-List.getD_eq_getElem?_getD, *]; exact Eq.refl _)); (focus (simp [-List.getD_eq_getElem?_getD]; exact Eq.refl _))))); (exact runE_nil))); (focus (first | kernel_rfl | decide)))))
    refine s_loopI hI1 (J := fun i : {k : Nat // k ≤ L.length} => ⟨21, [(0, .yld 9), (1, .ptr 7 0 0), (2, .ptr 8 0 0), (7, aRows L), (8, .v (.int .i64 (L.length : Int))), (9, .v (.int .i64 (i.1 : Int)))], [(10, ⟨25, 1, (givenK ts L i.1).map fun xs => [aInts xs]⟩), (0, ⟨24, 2, [[.v (.int .i64 N), aRows L]]⟩), (1, ⟨24, 2, [[.v (.int .i64 0), .v (.slice none 0 0)]]⟩), (2, ⟨98, 257, [isK ts ts.length]⟩), (6, ⟨24, 2, [[.v (.int .i64 N), .ref 10 0 (givenK ts L i.1).length]]⟩), (7, ⟨24, 2, [[.v (.int .i64 N), aRows L]]⟩), (8, ⟨102, 1, [[.ptr 2 0 0]]⟩)], [10, 9, 8, 7, 6, 2, 1, 0]⟩) (μ := fun i => L.length - i.1) ⟨0, Nat.zero_le _⟩ ?_ (fun ⟨k, hk⟩ => ?_)
    · have hk0 : givenK ts L 0 = [] := rfl
      refine weakI_of (fun k => k) ⟨rfl, ?_, ?_, ?_⟩ ?_ <;> simp [hk0, AV.ids, idsL, idsLL, AV.ren, renL, renLL]
    have hlen := givenK_len ts L k
    have hcap : ((givenK ts L k).length + 1) * 24 ≤ 140737488355328 := by omega
    repeat (first | with_reducible first | refine s_seq ?_ | refine k_seq ?_ | refine k_seq_ret ?_ | refine k_seq_exit ?_ | refine k_blk ?_ | refine k_blk_ret ?_ | refine k_blk_exit ?_ | refine k_lp_ret ?_ | refine k_lp_exit ?_ | refine ki_lp_ret ?_ | refine ki_lp_exit ?_ | refine s_block ?_ | refine sp_skip ?_ | refine sp_ret ?_ | refine sp_exit ?_ | ((with_reducible refine k_blk_out ?_ ?_); (focus decide)) | ((with_reducible refine s_cond_t ?_ ?_); (focus (simp [-List.getD_eq_getElem?_getD, *]; done))) | ((with_reducible refine s_cond_f ?_ ?_); (focus (simp [-List.getD_eq_getElem?_getD, *]; done))) | (focus ((with_reducible refine s_region2 (q := ?_) (σ' := ?_) TT_ok PT15_ok ?_ ?_ ?_); rotate_left 2; (focus (first | (simp; exact Eq.refl _) | exact Eq.refl _)); (focus ((repeat (((with_reducible refine runL_cons (σ1 := ?_) ?_ ?_); rotate_left; (focus (simp [-List.getD_eq_getElem?_getD, *]; rfl))))); (exact runL_nil))))) | (focus ((with_reducible refine s_draw2 (q := ?_) (es := ?_) (σ' := ?_) prog_mixed TT_ok PT15_ok ?_ ?_ ?_ ?_); rotate_left 3; (focus (first | (simp; exact Eq.refl _) | exact Eq.refl _)); (focus ((repeat (((with_reducible refine runE_cons (e := ?_) (σ1 := ?_) (es := ?_) ?_ ?_ ?_); rotate_left 3; (focus (simp [-List.getD_eq_getElem?_getD, *]; exact Eq.refl _)); (focus (simp [-List.getD_eq_getElem?_getD]; exact Eq.refl _))))); (exact runE_nil))); (focus (first | kernel_rfl | decide)))))
    (focus ((with_reducible refine sp_cond (b := ?_) ?_ (fun hc => ?_) (fun hc => ?_)); rotate_left; (focus (first | rfl | (simp [lk, AS.ev]; rfl))); all_goals (try simp [-List.getD_eq_getElem?_getD] at hc)))
    · have hkk := hc
      clear hc
      have hci := okRows_at h k
      have hcl := okInts_len hci
      have hmem := getD_memL hkk
      generalize hcc : L.getD k [] = c at hci hcl hmem
      obtain ⟨hl128, hlit⟩ := hck.2.2.2 c hmem
      have hks := givenK_succ (ts := ts) hkk
      rw [hcc] at hks
      repeat (first | with_reducible first | refine s_seq ?_ | refine k_seq ?_ | refine k_seq_ret ?_ | refine k_seq_exit ?_ | refine k_blk ?_ | refine k_blk_ret ?_ | refine k_blk_exit ?_ | refine k_lp_ret ?_ | refine k_lp_exit ?_ | refine ki_lp_ret ?_ | refine ki_lp_exit ?_ | refine s_block ?_ | refine sp_skip ?_ | refine sp_ret ?_ | refine sp_exit ?_ | ((with_reducible refine k_blk_out ?_ ?_); (focus decide)) | ((with_reducible refine s_cond_t ?_ ?_); (focus (simp [-List.getD_eq_getElem?_getD, *]; done))) | ((with_reducible refine s_cond_f ?_ ?_); (focus (simp [-List.getD_eq_getElem?_getD, *]; done))) | (focus ((with_reducible refine s_region2 (q := ?_) (σ' := ?_) TT_ok PT15_ok ?_ ?_ ?_); rotate_left 2; (focus (first | (simp; exact Eq.refl _) | exact Eq.refl _)); (focus ((repeat (((with_reducible refine runL_cons (σ1 := ?_) ?_ ?_); rotate_left; (focus (simp [-List.getD_eq_getElem?_getD, *]; rfl))))); (exact runL_nil))))) | (focus ((with_reducible refine s_draw2 (q := ?_) (es := ?_) (σ' := ?_) prog_mixed TT_ok PT15_ok ?_ ?_ ?_ ?_); rotate_left 3; (focus (first | (simp; exact Eq.refl _) | exact Eq.refl _)); (focus ((repeat (((with_reducible refine runE_cons (e := ?_) (σ1 := ?_) (es := ?_) ?_ ?_ ?_); rotate_left 3; (focus (simp [-List.getD_eq_getElem?_getD, *]; exact Eq.refl _)); (focus (simp [-List.getD_eq_getElem?_getD]; exact Eq.refl _))))); (exact runE_nil))); (focus (first | kernel_rfl | decide)))))
      refine s_regionL ?_
      ((iterate 2 (((with_reducible refine spl_step TT_ok PT15_ok (id := 0) (σ' := ?_) ?_ ?_); rotate_left; (focus (simp [-List.getD_eq_getElem?_getD, *]; rfl))))))
      have hlk := open11_looks N L ts c [(10, ⟨25, 1, (givenK ts L k).map fun xs => [aInts xs]⟩), (0, ⟨24, 2, [[.v (.int .i64 N), aRows L]]⟩), (1, ⟨24, 2, [[.v (.int .i64 0), .v (.slice none 0 0)]]⟩), (2, ⟨98, 257, [isK ts ts.length]⟩), (6, ⟨24, 2, [[.v (.int .i64 N), .ref 10 0 (givenK ts L k).length]]⟩), (7, ⟨24, 2, [[.v (.int .i64 N), aRows L]]⟩), (8, ⟨102, 1, [[.ptr 2 0 0]]⟩)] [10, 9, 8, 7, 6, 2, 1, 0] (fun y hy => ⟨(litOk_range (hlit y hy)).1, (litOk_range (hlit y hy)).2.1⟩) rfl rfl
      refine spl_call TT_ok rfl rfl rfl (by kernel_rfl) Try.func48 rfl (avs := [aInts c, .clo 96 [.ptr 8 0 0]]) (cs := []) rfl rfl (by simp [Try.ntmps48]) fun B2 hI2 hro2 => ?_
      refine sp_mono (cntFI_sp (known_of (by simp [AV.ids, idsL, idsLL])) (by omega) (by simp [AV.ids, idsL]) hlk rfl hI2) fun e τ hq => ?_
      obtain ⟨h1, h2, h3, h4⟩ := hq
      refine ⟨h1, _, h2, ?_⟩
      rw [h3, h4]
      refine spl_nil ?_
      cases hq : c.any fun l => decide (l ∈ ts)
      · have ho : openC ts c = true := by unfold openC; rw [hq]; rfl
        rw [if_pos ho] at hks
        repeat (first | with_reducible first | refine s_seq ?_ | refine k_seq ?_ | refine k_seq_ret ?_ | refine k_seq_exit ?_ | refine k_blk ?_ | refine k_blk_ret ?_ | refine k_blk_exit ?_ | refine k_lp_ret ?_ | refine k_lp_exit ?_ | refine ki_lp_ret ?_ | refine ki_lp_exit ?_ | refine s_block ?_ | refine sp_skip ?_ | refine sp_ret ?_ | refine sp_exit ?_ | ((with_reducible refine k_blk_out ?_ ?_); (focus decide)) | ((with_reducible refine s_cond_t ?_ ?_); (focus (simp [-List.getD_eq_getElem?_getD, *]; done))) | ((with_reducible refine s_cond_f ?_ ?_); (focus (simp [-List.getD_eq_getElem?_getD, *]; done))) | (focus ((with_reducible refine s_region2 (q := ?_) (σ' := ?_) TT_ok PT15_ok ?_ ?_ ?_); rotate_left 2; (focus (first | (simp; exact Eq.refl _) | exact Eq.refl _)); (focus ((repeat (((with_reducible refine runL_cons (σ1 := ?_) ?_ ?_); rotate_left; (focus (simp [-List.getD_eq_getElem?_getD, *]; rfl))))); (exact runL_nil))))) | (focus ((with_reducible refine s_draw2 (q := ?_) (es := ?_) (σ' := ?_) prog_mixed TT_ok PT15_ok ?_ ?_ ?_ ?_); rotate_left 3; (focus (first | (simp; exact Eq.refl _) | exact Eq.refl _)); (focus ((repeat (((with_reducible refine runE_cons (e := ?_) (σ1 := ?_) (es := ?_) ?_ ?_ ?_); rotate_left 3; (focus (simp [-List.getD_eq_getElem?_getD, *]; exact Eq.refl _)); (focus (simp [-List.getD_eq_getElem?_getD]; exact Eq.refl _))))); (exact runE_nil))); (focus (first | kernel_rfl | decide)))))
        refine s_regionL ?_
        ((iterate 2 (((with_reducible refine spl_step TT_ok PT15_ok (id := 0) (σ' := ?_) ?_ ?_); rotate_left; (focus (simp [-List.getD_eq_getElem?_getD, *]; rfl))))))
        refine hY _ _ _ _ _ _ _ _ [aInts c] rfl rfl rfl rfl rfl rfl fun B3 hI3 hro3 => ?_
        simp only [setps, st]
        repeat (first | with_reducible first | refine s_seq ?_ | refine k_seq ?_ | refine k_seq_ret ?_ | refine k_seq_exit ?_ | refine k_blk ?_ | refine k_blk_ret ?_ | refine k_blk_exit ?_ | refine k_lp_ret ?_ | refine k_lp_exit ?_ | refine ki_lp_ret ?_ | refine ki_lp_exit ?_ | refine s_block ?_ | refine sp_skip ?_ | refine sp_ret ?_ | refine sp_exit ?_ | ((with_reducible refine k_blk_out ?_ ?_); (focus decide)) | ((with_reducible refine s_cond_t ?_ ?_); (focus (simp [-List.getD_eq_getElem?_getD, *]; done))) | ((with_reducible refine s_cond_f ?_ ?_); (focus (simp [-List.getD_eq_getElem?_getD, *]; done))) | (focus ((with_reducible refine s_region2 (q := ?_) (σ' := ?_) TT_ok PT15_ok ?_ ?_ ?_); rotate_left 2; (focus (first | (simp; exact Eq.refl _) | exact Eq.refl _)); (focus ((repeat (((with_reducible refine runL_cons (σ1 := ?_) ?_ ?_); rotate_left; (focus (simp [-List.getD_eq_getElem?_getD, *]; rfl))))); (exact runL_nil))))) | (focus ((with_reducible refine s_draw2 (q := ?_) (es := ?_) (σ' := ?_) prog_mixed TT_ok PT15_ok ?_ ?_ ?_ ?_); rotate_left 3; (focus (first | (simp; exact Eq.refl _) | exact Eq.refl _)); (focus ((repeat (((with_reducible refine runE_cons (e := ?_) (σ1 := ?_) (es := ?_) ?_ ?_ ?_); rotate_left 3; (focus (simp [-List.getD_eq_getElem?_getD, *]; exact Eq.refl _)); (focus (simp [-List.getD_eq_getElem?_getD]; exact Eq.refl _))))); (exact runE_nil))); (focus (first | kernel_rfl | decide)))))
        refine ⟨rfl, fun B4 hI4 hro4 => ?_⟩
        repeat (first | with_reducible first | refine s_seq ?_ | refine k_seq ?_ | refine k_seq_ret ?_ | refine k_seq_exit ?_ | refine k_blk ?_ | refine k_blk_ret ?_ | refine k_blk_exit ?_ | refine k_lp_ret ?_ | refine k_lp_exit ?_ | refine ki_lp_ret ?_ | refine ki_lp_exit ?_ | refine s_block ?_ | refine sp_skip ?_ | refine sp_ret ?_ | refine sp_exit ?_ | ((with_reducible refine k_blk_out ?_ ?_); (focus decide)) | ((with_reducible refine s_cond_t ?_ ?_); (focus (simp [-List.getD_eq_getElem?_getD, *]; done))) | ((with_reducible refine s_cond_f ?_ ?_); (focus (simp [-List.getD_eq_getElem?_getD, *]; done))) | (focus ((with_reducible refine s_region2 (q := ?_) (σ' := ?_) TT_ok PT15_ok ?_ ?_ ?_); rotate_left 2; (focus (first | (simp; exact Eq.refl _) | exact Eq.refl _)); (focus ((repeat (((with_reducible refine runL_cons (σ1 := ?_) ?_ ?_); rotate_left; (focus (simp [-List.getD_eq_getElem?_getD, *]; rfl))))); (exact runL_nil))))) | (focus ((with_reducible refine s_draw2 (q := ?_) (es := ?_) (σ' := ?_) prog_mixed TT_ok PT15_ok ?_ ?_ ?_ ?_); rotate_left 3; (focus (first | (simp; exact Eq.refl _) | exact Eq.refl _)); (focus ((repeat (((with_reducible refine runE_cons (e := ?_) (σ1 := ?_) (es := ?_) ?_ ?_ ?_); rotate_left 3; (focus (simp [-List.getD_eq_getElem?_getD, *]; exact Eq.refl _)); (focus (simp [-List.getD_eq_getElem?_getD]; exact Eq.refl _))))); (exact runE_nil))); (focus (first | kernel_rfl | decide)))))
        refine s_nil 14 11 3 1 (by simp [lk]) (by simp) ?_
        simp only [st]
        refine s_loopI hI4 (J := fun i : {j : Nat // j ≤ c.length} => ⟨72, [(9, .ptr 2 0 0), (12, .ptr 6 0 0), (14, .ref 11 0 (restC ts (c.take i.1)).length), (49, aInts c), (50, .v (.int .i64 (c.length : Int))), (51, .v (.int .i64 (i.1 : Int)))], (11, ⟨3, 1, (restC ts (c.take i.1)).map fun x => [.v (.int .i64 x)]⟩) :: [(10, ⟨25, 1, (givenK ts L k).map fun xs => [aInts xs]⟩), (0, ⟨24, 2, [[.v (.int .i64 N), aRows L]]⟩), (1, ⟨24, 2, [[.v (.int .i64 0), .v (.slice none 0 0)]]⟩), (2, ⟨98, 257, [isK ts ts.length]⟩), (6, ⟨24, 2, [[.v (.int .i64 N), .ref 10 0 (givenK ts L k).length]]⟩), (7, ⟨24, 2, [[.v (.int .i64 N), aRows L]]⟩), (8, ⟨102, 1, [[.ptr 2 0 0]]⟩)], [11, 10, 9, 8, 7, 6, 2, 1, 0]⟩) (μ := fun i => c.length - i.1) ⟨0, Nat.zero_le _⟩ ?_ (fun ⟨j, hj⟩ => ?_)
        · have hk1 : restC ts [] = [] := rfl
          refine weakI_of (fun k => k) ⟨rfl, ?_, ?_, ?_⟩ ?_ <;> simp [hk1, AV.ids, idsL, idsLL, AV.ren, renL, renLL]
        repeat (first | with_reducible first | refine s_seq ?_ | refine k_seq ?_ | refine k_seq_ret ?_ | refine k_seq_exit ?_ | refine k_blk ?_ | refine k_blk_ret ?_ | refine k_blk_exit ?_ | refine k_lp_ret ?_ | refine k_lp_exit ?_ | refine ki_lp_ret ?_ | refine ki_lp_exit ?_ | refine s_block ?_ | refine sp_skip ?_ | refine sp_ret ?_ | refine sp_exit ?_ | ((with_reducible refine k_blk_out ?_ ?_); (focus decide)) | ((with_reducible refine s_cond_t ?_ ?_); (focus (simp [-List.getD_eq_getElem?_getD, *]; done))) | ((with_reducible refine s_cond_f ?_ ?_); (focus (simp [-List.getD_eq_getElem?_getD, *]; done))) | (focus ((with_reducible refine s_region2 (q := ?_) (σ' := ?_) TT_ok PT15_ok ?_ ?_ ?_); rotate_left 2; (focus (first | (simp; exact Eq.refl _) | exact Eq.refl _)); (focus ((repeat (((with_reducible refine runL_cons (σ1 := ?_) ?_ ?_); rotate_left; (focus (simp [-List.getD_eq_getElem?_getD, *]; rfl))))); (exact runL_nil))))) | (focus ((with_reducible refine s_draw2 (q := ?_) (es := ?_) (σ' := ?_) prog_mixed TT_ok PT15_ok ?_ ?_ ?_ ?_); rotate_left 3; (focus (first | (simp; exact Eq.refl _) | exact Eq.refl _)); (focus ((repeat (((with_reducible refine runE_cons (e := ?_) (σ1 := ?_) (es := ?_) ?_ ?_ ?_); rotate_left 3; (focus (simp [-List.getD_eq_getElem?_getD, *]; exact Eq.refl _)); (focus (simp [-List.getD_eq_getElem?_getD]; exact Eq.refl _))))); (exact runE_nil))); (focus (first | kernel_rfl | decide)))))
        (focus ((with_reducible refine sp_cond (b := ?_) ?_ (fun hc => ?_) (fun hc => ?_)); rotate_left; (focus (first | rfl | (simp [lk, AS.ev]; rfl))); all_goals (try simp [-List.getD_eq_getElem?_getD] at hc)))
        · have hjj := hc
          clear hc
          have hrs := restC_succ (ts := ts) hjj
          obtain ⟨r1, r2, r3, r4, r5⟩ := litOk_range (hlit _ (getD_memI hjj))
          have hrl : (restC ts (c.take j)).length ≤ 128 := by have := restC_len ts (c.take j); rw [List.length_take] at this; omega
          have hcap2 : ((restC ts (c.take j)).length + 1) * 8 ≤ 140737488355328 := by omega
          generalize hx : c.getD j 0 = x at hrs r1 r2 r3 r4 r5
          have hw : IntKind.i64.wrap (128 - x) = 128 - x := i64w (by omega) (by omega)
          have hi0 : 0 ≤ 128 - x := by omega
          have hi1 : 128 - x < 257 := by omega
          have hi3 : 128 - x ≤ 256 := by omega
          have hld := is_getD ts ts.length (j := (128 - x).toNat) (by omega)
          rw [List.take_length, show (((128 - x).toNat : Nat) : Int) - 128 = -x by omega] at hld
          have hld1 : (List.drop (128 - x).toNat (isK ts ts.length)).getD 0 .any = .v (.bool (decide (-x ∈ ts))) := by rw [← hld]; simp
          cases hb : decide (-x ∈ ts)
          · rw [if_neg (of_decide_eq_false hb)] at hrs
            rw [hb] at hld hld1
            repeat (first | with_reducible first | refine s_seq ?_ | refine k_seq ?_ | refine k_seq_ret ?_ | refine k_seq_exit ?_ | refine k_blk ?_ | refine k_blk_ret ?_ | refine k_blk_exit ?_ | refine k_lp_ret ?_ | refine k_lp_exit ?_ | refine ki_lp_ret ?_ | refine ki_lp_exit ?_ | refine s_block ?_ | refine sp_skip ?_ | refine sp_ret ?_ | refine sp_exit ?_ | ((with_reducible refine k_blk_out ?_ ?_); (focus decide)) | ((with_reducible refine s_cond_t ?_ ?_); (focus (simp [-List.getD_eq_getElem?_getD, *]; done))) | ((with_reducible refine s_cond_f ?_ ?_); (focus (simp [-List.getD_eq_getElem?_getD, *]; done))) | (focus ((with_reducible refine s_region2 (q := ?_) (σ' := ?_) TT_ok PT15_ok ?_ ?_ ?_); rotate_left 2; (focus (first | (simp; exact Eq.refl _) | exact Eq.refl _)); (focus ((repeat (((with_reducible refine runL_cons (σ1 := ?_) ?_ ?_); rotate_left; (focus (simp [-List.getD_eq_getElem?_getD, *]; rfl))))); (exact runL_nil))))) | (focus ((with_reducible refine s_draw2 (q := ?_) (es := ?_) (σ' := ?_) prog_mixed TT_ok PT15_ok ?_ ?_ ?_ ?_); rotate_left 3; (focus (first | (simp; exact Eq.refl _) | exact Eq.refl _)); (focus ((repeat (((with_reducible refine runE_cons (e := ?_) (σ1 := ?_) (es := ?_) ?_ ?_ ?_); rotate_left 3; (focus (simp [-List.getD_eq_getElem?_getD, *]; exact Eq.refl _)); (focus (simp [-List.getD_eq_getElem?_getD]; exact Eq.refl _))))); (exact runE_nil))); (focus (first | kernel_rfl | decide)))))
            refine ki_lp (⟨j + 1, by omega⟩ : {j : Nat // j ≤ c.length}) (by dsimp only; omega) ?_
            (refine weakI_of (fun k => if k = 11 then 15 else k) ⟨rfl, ?_, ?_, ?_⟩ ?_ <;> ((try simp only [List.mem_cons, List.not_mem_nil, or_false, forall_eq_or_imp, forall_eq]); (try simp (disch := omega) [-List.getD_eq_getElem?_getD, lk, AV.ids, idsL, idsLL, AV.ren, renL, renLL, i64w, *])))
          · rw [if_pos (of_decide_eq_true hb)] at hrs
            rw [hb] at hld hld1
            repeat (first | with_reducible first | refine s_seq ?_ | refine k_seq ?_ | refine k_seq_ret ?_ | refine k_seq_exit ?_ | refine k_blk ?_ | refine k_blk_ret ?_ | refine k_blk_exit ?_ | refine k_lp_ret ?_ | refine k_lp_exit ?_ | refine ki_lp_ret ?_ | refine ki_lp_exit ?_ | refine s_block ?_ | refine sp_skip ?_ | refine sp_ret ?_ | refine sp_exit ?_ | ((with_reducible refine k_blk_out ?_ ?_); (focus decide)) | ((with_reducible refine s_cond_t ?_ ?_); (focus (simp [-List.getD_eq_getElem?_getD, *]; done))) | ((with_reducible refine s_cond_f ?_ ?_); (focus (simp [-List.getD_eq_getElem?_getD, *]; done))) | (focus ((with_reducible refine s_region2 (q := ?_) (σ' := ?_) TT_ok PT15_ok ?_ ?_ ?_); rotate_left 2; (focus (first | (simp; exact Eq.refl _) | exact Eq.refl _)); (focus ((repeat (((with_reducible refine runL_cons (σ1 := ?_) ?_ ?_); rotate_left; (focus (simp [-List.getD_eq_getElem?_getD, *]; rfl))))); (exact runL_nil))))) | (focus ((with_reducible refine s_draw2 (q := ?_) (es := ?_) (σ' := ?_) prog_mixed TT_ok PT15_ok ?_ ?_ ?_ ?_); rotate_left 3; (focus (first | (simp; exact Eq.refl _) | exact Eq.refl _)); (focus ((repeat (((with_reducible refine runE_cons (e := ?_) (σ1 := ?_) (es := ?_) ?_ ?_ ?_); rotate_left 3; (focus (simp [-List.getD_eq_getElem?_getD, *]; exact Eq.refl _)); (focus (simp [-List.getD_eq_getElem?_getD]; exact Eq.refl _))))); (exact runE_nil))); (focus (first | kernel_rfl | decide)))))
            refine ki_lp (⟨j + 1, by omega⟩ : {j : Nat // j ≤ c.length}) (by dsimp only; omega) ?_
            (refine weakI_of (fun k => k) ⟨rfl, ?_, ?_, ?_⟩ ?_ <;> ((try simp only [List.mem_cons, List.not_mem_nil, or_false, forall_eq_or_imp, forall_eq]); (try simp (disch := omega) [-List.getD_eq_getElem?_getD, lk, AV.ids, idsL, idsLL, AV.ren, renL, renLL, i64w, *])))
        · obtain rfl : j = c.length := by omega
          have hfull : restC ts (c.take c.length) = restC ts c := by rw [List.take_length]
          refine s_frz (fun k => k == 11) ?_
          (refine s_eq (τ := ?_) ?_ ?_; rotate_left; (focus ((try simp only [AS.frz, List.map_cons, List.map_nil]); (try simp [-List.getD_eq_getElem?_getD, frzV, frzO, frzC, List.filter]); rfl)))
          repeat (first | with_reducible first | refine s_seq ?_ | refine k_seq ?_ | refine k_seq_ret ?_ | refine k_seq_exit ?_ | refine k_blk ?_ | refine k_blk_ret ?_ | refine k_blk_exit ?_ | refine k_lp_ret ?_ | refine k_lp_exit ?_ | refine ki_lp_ret ?_ | refine ki_lp_exit ?_ | refine s_block ?_ | refine sp_skip ?_ | refine sp_ret ?_ | refine sp_exit ?_ | ((with_reducible refine k_blk_out ?_ ?_); (focus decide)) | ((with_reducible refine s_cond_t ?_ ?_); (focus (simp [-List.getD_eq_getElem?_getD, *]; done))) | ((with_reducible refine s_cond_f ?_ ?_); (focus (simp [-List.getD_eq_getElem?_getD, *]; done))) | (focus ((with_reducible refine s_region2 (q := ?_) (σ' := ?_) TT_ok PT15_ok ?_ ?_ ?_); rotate_left 2; (focus (first | (simp; exact Eq.refl _) | exact Eq.refl _)); (focus ((repeat (((with_reducible refine runL_cons (σ1 := ?_) ?_ ?_); rotate_left; (focus (simp [-List.getD_eq_getElem?_getD, *]; rfl))))); (exact runL_nil))))) | (focus ((with_reducible refine s_draw2 (q := ?_) (es := ?_) (σ' := ?_) prog_mixed TT_ok PT15_ok ?_ ?_ ?_ ?_); rotate_left 3; (focus (first | (simp; exact Eq.refl _) | exact Eq.refl _)); (focus ((repeat (((with_reducible refine runE_cons (e := ?_) (σ1 := ?_) (es := ?_) ?_ ?_ ?_); rotate_left 3; (focus (simp [-List.getD_eq_getElem?_getD, *]; exact Eq.refl _)); (focus (simp [-List.getD_eq_getElem?_getD]; exact Eq.refl _))))); (exact runE_nil))); (focus (first | kernel_rfl | decide)))))
          refine ⟨rfl, ?_⟩
          ((iterate 1 (((with_reducible refine spl_step TT_ok PT15_ok (id := 0) (σ' := ?_) ?_ ?_); rotate_left; (focus (simp [-List.getD_eq_getElem?_getD, *]; rfl))))))
          refine spl_nil ?_
          repeat (first | with_reducible first | refine s_seq ?_ | refine k_seq ?_ | refine k_seq_ret ?_ | refine k_seq_exit ?_ | refine k_blk ?_ | refine k_blk_ret ?_ | refine k_blk_exit ?_ | refine k_lp_ret ?_ | refine k_lp_exit ?_ | refine ki_lp_ret ?_ | refine ki_lp_exit ?_ | refine s_block ?_ | refine sp_skip ?_ | refine sp_ret ?_ | refine sp_exit ?_ | ((with_reducible refine k_blk_out ?_ ?_); (focus decide)) | ((with_reducible refine s_cond_t ?_ ?_); (focus (simp [-List.getD_eq_getElem?_getD, *]; done))) | ((with_reducible refine s_cond_f ?_ ?_); (focus (simp [-List.getD_eq_getElem?_getD, *]; done))) | (focus ((with_reducible refine s_region2 (q := ?_) (σ' := ?_) TT_ok PT15_ok ?_ ?_ ?_); rotate_left 2; (focus (first | (simp; exact Eq.refl _) | exact Eq.refl _)); (focus ((repeat (((with_reducible refine runL_cons (σ1 := ?_) ?_ ?_); rotate_left; (focus (simp [-List.getD_eq_getElem?_getD, *]; rfl))))); (exact runL_nil))))) | (focus ((with_reducible refine s_draw2 (q := ?_) (es := ?_) (σ' := ?_) prog_mixed TT_ok PT15_ok ?_ ?_ ?_ ?_); rotate_left 3; (focus (first | (simp; exact Eq.refl _) | exact Eq.refl _)); (focus ((repeat (((with_reducible refine runE_cons (e := ?_) (σ1 := ?_) (es := ?_) ?_ ?_ ?_); rotate_left 3; (focus (simp [-List.getD_eq_getElem?_getD, *]; exact Eq.refl _)); (focus (simp [-List.getD_eq_getElem?_getD]; exact Eq.refl _))))); (exact runE_nil))); (focus (first | kernel_rfl | decide)))))
          refine ki_lp (⟨k + 1, by omega⟩ : {k : Nat // k ≤ L.length}) (by dsimp only; omega) ?_
          (refine weakI_of (fun k => if k = 10 then 16 else k) ⟨rfl, ?_, ?_, ?_⟩ ?_ <;> ((try simp only [List.mem_cons, List.not_mem_nil, or_false, forall_eq_or_imp, forall_eq]); (try simp (disch := omega) [-List.getD_eq_getElem?_getD, lk, AV.ids, idsL, idsLL, AV.ren, renL, renLL, i64w, *])))
      · have ho : ¬ openC ts c = true := by unfold openC; rw [hq]; simp
        rw [if_neg ho] at hks
        repeat (first | with_reducible first | refine s_seq ?_ | refine k_seq ?_ | refine k_seq_ret ?_ | refine k_seq_exit ?_ | refine k_blk ?_ | refine k_blk_ret ?_ | refine k_blk_exit ?_ | refine k_lp_ret ?_ | refine k_lp_exit ?_ | refine ki_lp_ret ?_ | refine ki_lp_exit ?_ | refine s_block ?_ | refine sp_skip ?_ | refine sp_ret ?_ | refine sp_exit ?_ | ((with_reducible refine k_blk_out ?_ ?_); (focus decide)) | ((with_reducible refine s_cond_t ?_ ?_); (focus (simp [-List.getD_eq_getElem?_getD, *]; done))) | ((with_reducible refine s_cond_f ?_ ?_); (focus (simp [-List.getD_eq_getElem?_getD, *]; done))) | (focus ((with_reducible refine s_region2 (q := ?_) (σ' := ?_) TT_ok PT15_ok ?_ ?_ ?_); rotate_left 2; (focus (first | (simp; exact Eq.refl _) | exact Eq.refl _)); (focus ((repeat (((with_reducible refine runL_cons (σ1 := ?_) ?_ ?_); rotate_left; (focus (simp [-List.getD_eq_getElem?_getD, *]; rfl))))); (exact runL_nil))))) | (focus ((with_reducible refine s_draw2 (q := ?_) (es := ?_) (σ' := ?_) prog_mixed TT_ok PT15_ok ?_ ?_ ?_ ?_); rotate_left 3; (focus (first | (simp; exact Eq.refl _) | exact Eq.refl _)); (focus ((repeat (((with_reducible refine runE_cons (e := ?_) (σ1 := ?_) (es := ?_) ?_ ?_ ?_); rotate_left 3; (focus (simp [-List.getD_eq_getElem?_getD, *]; exact Eq.refl _)); (focus (simp [-List.getD_eq_getElem?_getD]; exact Eq.refl _))))); (exact runE_nil))); (focus (first | kernel_rfl | decide)))))
        refine ki_lp (⟨k + 1, by omega⟩ : {k : Nat // k ≤ L.length}) (by dsimp only; omega) ?_
        (refine weakI_of (fun k => k) ⟨rfl, ?_, ?_, ?_⟩ ?_ <;> ((try simp only [List.mem_cons, List.not_mem_nil, or_false, forall_eq_or_imp, forall_eq]); (try simp (disch := omega) [-List.getD_eq_getElem?_getD, lk, AV.ids, idsL, idsLL, AV.ren, renL, renLL, i64w, *])))
    · obtain rfl : k = L.length := by omega
      have hfin : givenK ts L L.length = givenT ts L := by unfold givenK givenT; rw [List.take_length]
      repeat (first | with_reducible first | refine s_seq ?_ | refine k_seq ?_ | refine k_seq_ret ?_ | refine k_seq_exit ?_ | refine k_blk ?_ | refine k_blk_ret ?_ | refine k_blk_exit ?_ | refine k_lp_ret ?_ | refine k_lp_exit ?_ | refine ki_lp_ret ?_ | refine ki_lp_exit ?_ | refine s_block ?_ | refine sp_skip ?_ | refine sp_ret ?_ | refine sp_exit ?_ | ((with_reducible refine k_blk_out ?_ ?_); (focus decide)) | ((with_reducible refine s_cond_t ?_ ?_); (focus (simp [-List.getD_eq_getElem?_getD, *]; done))) | ((with_reducible refine s_cond_f ?_ ?_); (focus (simp [-List.getD_eq_getElem?_getD, *]; done))) | (focus ((with_reducible refine s_region2 (q := ?_) (σ' := ?_) TT_ok PT15_ok ?_ ?_ ?_); rotate_left 2; (focus (first | (simp; exact Eq.refl _) | exact Eq.refl _)); (focus ((repeat (((with_reducible refine runL_cons (σ1 := ?_) ?_ ?_); rotate_left; (focus (simp [-List.getD_eq_getElem?_getD, *]; rfl))))); (exact runL_nil))))) | (focus ((with_reducible refine s_draw2 (q := ?_) (es := ?_) (σ' := ?_) prog_mixed TT_ok PT15_ok ?_ ?_ ?_ ?_); rotate_left 3; (focus (first | (simp; exact Eq.refl _) | exact Eq.refl _)); (focus ((repeat (((with_reducible refine runE_cons (e := ?_) (σ1 := ?_) (es := ?_) ?_ ?_ ?_); rotate_left 3; (focus (simp [-List.getD_eq_getElem?_getD, *]; exact Eq.refl _)); (focus (simp [-List.getD_eq_getElem?_getD]; exact Eq.refl _))))); (exact runE_nil))); (focus (first | kernel_rfl | decide)))))
      refine ⟨.inl rfl, .tup [], rfl, ?_⟩
      repeat (first | with_reducible first | refine s_seq ?_ | refine k_seq ?_ | refine k_seq_ret ?_ | refine k_seq_exit ?_ | refine k_blk ?_ | refine k_blk_ret ?_ | refine k_blk_exit ?_ | refine k_lp_ret ?_ | refine k_lp_exit ?_ | refine ki_lp_ret ?_ | refine ki_lp_exit ?_ | refine s_block ?_ | refine sp_skip ?_ | refine sp_ret ?_ | refine sp_exit ?_ | ((with_reducible refine k_blk_out ?_ ?_); (focus decide)) | ((with_reducible refine s_cond_t ?_ ?_); (focus (simp [-List.getD_eq_getElem?_getD, *]; done))) | ((with_reducible refine s_cond_f ?_ ?_); (focus (simp [-List.getD_eq_getElem?_getD, *]; done))) | (focus ((with_reducible refine s_region2 (q := ?_) (σ' := ?_) TT_ok PT15_ok ?_ ?_ ?_); rotate_left 2; (focus (first | (simp; exact Eq.refl _) | exact Eq.refl _)); (focus ((repeat (((with_reducible refine runL_cons (σ1 := ?_) ?_ ?_); rotate_left; (focus (simp [-List.getD_eq_getElem?_getD, *]; rfl))))); (exact runL_nil))))) | (focus ((with_reducible refine s_draw2 (q := ?_) (es := ?_) (σ' := ?_) prog_mixed TT_ok PT15_ok ?_ ?_ ?_ ?_); rotate_left 3; (focus (first | (simp; exact Eq.refl _) | exact Eq.refl _)); (focus ((repeat (((with_reducible refine runE_cons (e := ?_) (σ1 := ?_) (es := ?_) ?_ ?_ ?_); rotate_left 3; (focus (simp [-List.getD_eq_getElem?_getD, *]; exact Eq.refl _)); (focus (simp [-List.getD_eq_getElem?_getD]; exact Eq.refl _))))); (exact runE_nil))); (focus (first | kernel_rfl | decide)))))
      ((refine post_ret (av := ?_) (by first | exact .inl rfl | exact .inr rfl) (show (Try.f41).results.toList = _ from by rw [Try.results41]) ?_ ?_); rotate_left; (focus (simp [-List.getD_eq_getElem?_getD, retA, retL, ret1, lk, st, ldA, AV.cell]; rfl)); (try simp [-List.getD_eq_getElem?_getD, *]))
theorem given_p (N : Int) (L : List (List Int)) (ts : List Int) (hN : okI N = true) (h : okRows L = true) (ht : okInts ts = true) : FnPure Try.prog 41 [aTh N L, aInts ts] (givenA N L ts) := by
  unfold givenA
  by_cases hz : checkT N L = 0
  · rw [if_pos hz]
    have hck := checkT_ok hz
    have htm := term_some (ts := ts) ⟨hck.1, hck.2.1⟩
    cases hr : termR N ts
    · rw [hr] at htm
      rw [if_neg (by simp)]
      unfold aTh
      refine fn_sp TT_ok Try.func41 (c := _) rfl (by simp [Try.ntmps41]) (fun B hI0 hro => ?_)
      rw [Try.ntmps41]
      simp only [enumA]
      repeat (first | with_reducible first | refine s_seq ?_ | refine k_seq ?_ | refine k_seq_ret ?_ | refine k_seq_exit ?_ | refine k_blk ?_ | refine k_blk_ret ?_ | refine k_blk_exit ?_ | refine k_lp_ret ?_ | refine k_lp_exit ?_ | refine ki_lp_ret ?_ | refine ki_lp_exit ?_ | refine s_block ?_ | refine sp_skip ?_ | refine sp_ret ?_ | refine sp_exit ?_ | ((with_reducible refine k_blk_out ?_ ?_); (focus decide)) | ((with_reducible refine s_cond_t ?_ ?_); (focus (simp [-List.getD_eq_getElem?_getD, *]; done))) | ((with_reducible refine s_cond_f ?_ ?_); (focus (simp [-List.getD_eq_getElem?_getD, *]; done))) | (focus ((with_reducible refine s_region2 (q := ?_) (σ' := ?_) TT_ok PT15_ok ?_ ?_ ?_); rotate_left 2; (focus (first | (simp; exact Eq.refl _) | exact Eq.refl _)); (focus ((repeat (((with_reducible refine runL_cons (σ1 := ?_) ?_ ?_); rotate_left; (focus (simp [-List.getD_eq_getElem?_getD, *]; rfl))))); (exact runL_nil))))) | (focus ((with_reducible refine s_draw2 (q := ?_) (es := ?_) (σ' := ?_) prog_mixed TT_ok PT15_ok ?_ ?_ ?_ ?_); rotate_left 3; (focus (first | (simp; exact Eq.refl _) | exact Eq.refl _)); (focus ((repeat (((with_reducible refine runE_cons (e := ?_) (σ1 := ?_) (es := ?_) ?_ ?_ ?_); rotate_left 3; (focus (simp [-List.getD_eq_getElem?_getD, *]; exact Eq.refl _)); (focus (simp [-List.getD_eq_getElem?_getD]; exact Eq.refl _))))); (exact runE_nil))); (focus (first | kernel_rfl | decide)))))
      ((refine post_ret (av := ?_) (by first | exact .inl rfl | exact .inr rfl) (show (Try.f41).results.toList = _ from by rw [Try.results41]) ?_ ?_); rotate_left; (focus (simp [-List.getD_eq_getElem?_getD, retA, retL, ret1, lk, st, ldA, AV.cell]; rfl)); (try simp [-List.getD_eq_getElem?_getD, *]))
    · rw [if_pos rfl]
      exact given_ok N L ts hN h ht hz hr
  · rw [if_neg hz]
    have hne : (checkT N L != 0) = true := by simpa using hz
    unfold aTh
    refine fn_sp TT_ok Try.func41 (c := _) rfl (by simp [Try.ntmps41]) (fun B hI0 hro => ?_)
    rw [Try.ntmps41]
    simp only [enumA]
    repeat (first | with_reducible first | refine s_seq ?_ | refine k_seq ?_ | refine k_seq_ret ?_ | refine k_seq_exit ?_ | refine k_blk ?_ | refine k_blk_ret ?_ | refine k_blk_exit ?_ | refine k_lp_ret ?_ | refine k_lp_exit ?_ | refine ki_lp_ret ?_ | refine ki_lp_exit ?_ | refine s_block ?_ | refine sp_skip ?_ | refine sp_ret ?_ | refine sp_exit ?_ | ((with_reducible refine k_blk_out ?_ ?_); (focus decide)) | ((with_reducible refine s_cond_t ?_ ?_); (focus (simp [-List.getD_eq_getElem?_getD, *]; done))) | ((with_reducible refine s_cond_f ?_ ?_); (focus (simp [-List.getD_eq_getElem?_getD, *]; done))) | (focus ((with_reducible refine s_region2 (q := ?_) (σ' := ?_) TT_ok PT15_ok ?_ ?_ ?_); rotate_left 2; (focus (first | (simp; exact Eq.refl _) | exact Eq.refl _)); (focus ((repeat (((with_reducible refine runL_cons (σ1 := ?_) ?_ ?_); rotate_left; (focus (simp [-List.getD_eq_getElem?_getD, *]; rfl))))); (exact runL_nil))))) | (focus ((with_reducible refine s_draw2 (q := ?_) (es := ?_) (σ' := ?_) prog_mixed TT_ok PT15_ok ?_ ?_ ?_ ?_); rotate_left 3; (focus (first | (simp; exact Eq.refl _) | exact Eq.refl _)); (focus ((repeat (((with_reducible refine runE_cons (e := ?_) (σ1 := ?_) (es := ?_) ?_ ?_ ?_); rotate_left 3; (focus (simp [-List.getD_eq_getElem?_getD, *]; exact Eq.refl _)); (focus (simp [-List.getD_eq_getElem?_getD]; exact Eq.refl _))))); (exact runE_nil))); (focus (first | kernel_rfl | decide)))))
    ((refine post_ret (av := ?_) (by first | exact .inl rfl | exact .inr rfl) (show (Try.f41).results.toList = _ from by rw [Try.results41]) ?_ ?_); rotate_left; (focus (simp [-List.getD_eq_getElem?_getD, retA, retL, ret1, lk, st, ldA, AV.cell]; rfl)); (try simp [-List.getD_eq_getElem?_getD, *]))
@[simp] def g_given : List AV → Option (AV × Bool)
  | [.agg [.v (.int .i64 N), a0], a1] => (match toRows a0 with | some L => (match toInts a1 with | some ts => if (okI N && okRows L && okInts ts) = true then some (givenA N L ts, false) else none | none => none) | none => none)
  | _ => none
theorem e_given : EntOk Try.prog 41 g_given := ent_pure (by kernel_rfl) fun args r fr h => by
  unfold g_given at h
  split at h
  · rename_i N a0 a1
    split at h
    · rename_i L t0
      split at h
      · rename_i ts t1
        split at h
        · rename_i hc
          simp only [Bool.and_eq_true] at hc
          obtain ⟨⟨m0, o0⟩, o1⟩ := hc
          cases h
          exact ⟨FnPure.cov (given_p N L ts m0 o0 o1) (.cons (cov_th _ (cov_rows t0)) (.cons (cov_ints t1) .nil)), rfl⟩
        · cases h
      · cases h
    · cases h
  · cases h

def l16 : List (FuncId × (List AV → Option (AV × Bool))) :=
  (41, g_given) :: l15
theorem l16_ok : ∀ p ∈ l16, EntOk Try.prog p.1 p.2 := ent_cons e_given (l15_ok)
def PT16 : PTab := tab l16
theorem PT16_ok : PTok Try.prog PT16 := tab_ok l16_ok
@[simp] theorem PT16_litVar : PT16 32 = g_litVar := rfl
@[simp] theorem PT16_litValid : PT16 77 = g_litValid := rfl
@[simp] theorem PT16_contains : PT16 50 = g_contains := rfl
@[simp] theorem PT16_check : PT16 46 = g_check := rfl
@[simp] theorem PT16_with : PT16 33 = g_with := rfl
@[simp] theorem PT16_without : PT16 31 = g_without := rfl
@[simp] theorem PT16_all : PT16 30 = g_all := rfl
@[simp] theorem PT16_rValid : PT16 71 = g_rValid := rfl
@[simp] theorem PT16_rCheck : PT16 42 = g_rCheck := rfl
@[simp] theorem PT16_litvalid : PT16 85 = g_litvalid := rfl
@[simp] theorem PT16_opposite : PT16 87 = g_opposite := rfl
@[simp] theorem PT16_clone : PT16 99 = g_clone := rfl
@[simp] theorem PT16_order : PT16 86 = g_order := rfl
@[simp] theorem PT16_term : PT16 69 = g_term := rfl
@[simp] theorem PT16_clause : PT16 57 = g_clause := rfl
@[simp] theorem PT16_equal : PT16 61 = g_equal := rfl
@[simp] theorem PT16_distinct : PT16 60 = g_distinct := rfl
@[simp] theorem PT16_normal : PT16 27 = g_normal := rfl
@[simp] theorem PT16_rContains : PT16 74 = g_rContains := rfl
@[simp] theorem PT16_rSameInts : PT16 52 = g_rSameInts := rfl
@[simp] theorem PT16_rAbs : PT16 114 = g_rAbs := rfl
@[simp] theorem PT16_rBefore : PT16 97 = g_rBefore := rfl
@[simp] theorem PT16_rSorted : PT16 75 = g_rSorted := rfl
@[simp] theorem PT16_rPut : PT16 76 = g_rPut := rfl
@[simp] theorem PT16_rNormal : PT16 45 = g_rNormal := rfl
@[simp] theorem PT16_place : PT16 62 = g_place := rfl
@[simp] theorem PT16_vHas : PT16 34 = g_vHas := rfl
@[simp] theorem PT16_vMinus : PT16 90 = g_vMinus := rfl
@[simp] theorem PT16_vCut : PT16 29 = g_vCut := rfl
@[simp] theorem PT16_vSub : PT16 65 = g_vSub := rfl
@[simp] theorem PT16_litHolds : PT16 64 = g_litHolds := rfl
@[simp] theorem PT16_litAny : PT16 36 = g_litAny := rfl
@[simp] theorem PT16_thEval : PT16 37 = g_thEval := rfl
@[simp] theorem PT16_rSame : PT16 22 = g_rSame := rfl
@[simp] theorem PT16_rTerm : PT16 73 = g_rTerm := rfl
@[simp] theorem PT16_thVars : PT16 35 = g_thVars := rfl
@[simp] theorem PT16_given : PT16 41 = g_given := rfl
end Go.Proofs.Ythdjgcjpolpgdaa
