/- What theory.Given looks at; no condition. -/
import Derived.Test.YthdjgcjpolpgdaaThG
import Derived.Test.YthdjgcjpolpgdaaNil
namespace Go.Proofs.Ythdjgcjpolpgdaa
set_option linter.unusedVariables false
set_option linter.unusedSimpArgs false
set_option linter.unusedSectionVars false
open Go.RowKit
attribute [local simp] List.getD_cons_zero List.getD_cons_succ List.getD_nil undef gvars runL runE effA stepA dstOk wantA core lk st dl AS.ev AS.evs AS.put AS.upd updO updI nxt cPick cAlloc cBox cBuild cBuildS cLoad cStore cNil plainOf cBin cNilS isNilS nilA cUn cConvX cConvB cConv bytesOf rowB cMake cSlice slA idxA cFA cF cIA cIX cIS cI cExt cLen cApp cMM cFun cCall lenA lenM isNilM nilM cNilM cMakeM hintB cMapK cLook foundR lookR cUpd putM cDel delM findA isKeyB Instr.sameNow AS.entry AS.bound AS.callee sc1 sc2 ixOk ldA AV.flat AV.cell AV.cells Value.oneCell' fillA spl chunk zeros AS.parts AS.rows AS.shut AS.shut1 AS.shut2 AS.shutL AS.shutM AV.ids idsL idsLL eqAll bndA AV.scalar AV.scalar1 AV.isV Ef.app Ef.pk ptOf pntO wrO wr
set_option maxRecDepth 100000

def openC (ts c : List Int) : Bool := !(c.any fun l => decide (l ∈ ts))
def restC (ts c : List Int) : List Int := c.filter fun l => !decide (-l ∈ ts)
def givenK (ts : List Int) (L : List (List Int)) (k : Nat) : List (List Int) := ((L.take k).filter (openC ts)).map (restC ts)
def givenT (ts : List Int) (L : List (List Int)) : List (List Int) := (L.filter (openC ts)).map (restC ts)
def givenA (N : Int) (L : List (List Int)) (ts : List Int) : AV := if checkT N L = 0 then (if termR N ts = true then .tup [aTh N (givenT ts L), .v (.int .i64 0)] else .tup [.agg [.v (.int .i64 0), .v (.slice none 0 0)], .v (.int .i64 1)]) else .tup [.agg [.v (.int .i64 0), .v (.slice none 0 0)], .v (.int .i64 (checkT N L))]
theorem altK_iff {ts : List Int} : ∀ {k : Nat}, altK ts k = true ↔ ∃ i : Nat, i < k ∧ ((i : Int) + 1) ∈ ts ∧ -((i : Int) + 1) ∈ ts := by
  intro k
  unfold altK
  simp only [List.any_eq_true, List.mem_range, Bool.and_eq_true, decide_eq_true_eq]
theorem term_some {N : Int} {ts : List Int} (hN : 0 ≤ N ∧ N ≤ 128) : (termL ts N).isSome = termR N ts := by
  unfold termL
  by_cases hv : (ts.all fun y => litOk y N) = true
  · have hv' := List.all_eq_true.1 hv
    rw [hv, adjOpp_altK hN hv', Bool.true_and]
    cases ha : altK ts N.toNat
    · have : termR N ts = true := by
        unfold termR
        rw [List.all_eq_true]
        intro x hx
        obtain ⟨r1, r2, r3, r4, r5⟩ := litOk_range (hv' x hx)
        rw [hv' x hx, Bool.true_and, Bool.not_eq_true', decide_eq_false_iff_not]
        intro hm
        have : altK ts N.toNat = true := by
          rw [altK_iff]
          by_cases hx0 : 0 < x
          · exact ⟨(x - 1).toNat, by omega, by rw [show (((x - 1).toNat : Nat) : Int) + 1 = x by omega]; exact hx, by rw [show (((x - 1).toNat : Nat) : Int) + 1 = x by omega]; exact hm⟩
          · exact ⟨(-x - 1).toNat, by omega, by rw [show (((-x - 1).toNat : Nat) : Int) + 1 = -x by omega]; exact hm, by rw [show (((-x - 1).toNat : Nat) : Int) + 1 = -x by omega, Int.neg_neg]; exact hx⟩
        rw [ha] at this; cases this
      rw [this]; rfl
    · obtain ⟨i, hi, h1, h2⟩ := altK_iff.1 ha
      have : termR N ts = false := by
        unfold termR
        rw [List.all_eq_false]
        refine ⟨_, h1, ?_⟩
        rw [decide_eq_true h2]; simp
      rw [this]; rfl
  · have hv2 : (ts.all fun y => litOk y N) = false := by simpa using hv
    have : termR N ts = false := by
      unfold termR
      rw [List.all_eq_false] at hv2 ⊢
      obtain ⟨x, hx, h⟩ := hv2
      exact ⟨x, hx, by simp at h; simp [h]⟩
    rw [hv2, this]; rfl
theorem givenK_succ {ts : List Int} {L : List (List Int)} {k : Nat} (hk : k < L.length) : givenK ts L (k + 1) = if openC ts (L.getD k []) = true then givenK ts L k ++ [restC ts (L.getD k [])] else givenK ts L k := by
  have : L.getD k [] = L[k] := by simp [List.getD, hk]
  unfold givenK
  rw [List.take_succ_eq_append_getElem hk, List.filter_append, List.map_append, this]
  by_cases h : openC ts L[k] = true
  · rw [if_pos h]; simp [h]
  · rw [if_neg h]; simp [h]
theorem givenK_len (ts : List Int) (L : List (List Int)) (k : Nat) : (givenK ts L k).length ≤ k := by
  unfold givenK
  rw [List.length_map]
  exact Nat.le_trans (List.length_filter_le _ _) (by simp; omega)
theorem restC_succ {ts c : List Int} {j : Nat} (hj : j < c.length) : restC ts (c.take (j + 1)) = if -(c.getD j 0) ∈ ts then restC ts (c.take j) else restC ts (c.take j) ++ [c.getD j 0] := by
  have : c.getD j 0 = c[j] := by simp [List.getD, hj]
  unfold restC
  rw [List.take_succ_eq_append_getElem hj, List.filter_append, this]
  by_cases h : -c[j] ∈ ts
  · rw [if_pos h]; simp [h]
  · rw [if_neg h]; simp [h]
theorem restC_len (ts c : List Int) : (restC ts c).length ≤ c.length := List.length_filter_le _ _
theorem known_of {objs : List (Nat × AObj)} {ids : List Nat} (h : ∀ p ∈ objs, p.1 ∈ ids ∧ ∀ q ∈ idsLL p.2.xs, q ∈ ids) : Known objs ids := fun k ob hk => h (k, ob) (mem_lk hk)
def isK (ts : List Int) (k : Nat) : List AV := bRow 257 fun i => decide ((i : Int) - 128 ∈ ts.take k)
@[simp ↓ high] theorem d_is_len (ts : List Int) (k : Nat) : (isK ts k).length = 257 := d_len_b _ _
@[simp ↓ high] theorem d_is_ids (ts : List Int) (k : Nat) : idsL (isK ts k) = [] := d_ids_b _ _
@[simp ↓ high] theorem d_is_ren (ρ : Nat → Nat) (ts : List Int) (k : Nat) : renL ρ (isK ts k) = isK ts k := d_ren_b _ _ _
theorem take_mem_succ {ts : List Int} {k : Nat} (hk : k < ts.length) (y : Int) : y ∈ ts.take (k + 1) ↔ y ∈ ts.take k ∨ y = ts.getD k 0 := by
  have : ts.getD k 0 = ts[k] := by simp [List.getD, hk]
  rw [List.take_succ_eq_append_getElem hk, this, List.mem_append, List.mem_singleton]
@[simp high] theorem d_is_spl {ts : List Int} {k j : Nat} (hk : k < ts.length) (hj : 128 + ts.getD k 0 = (j : Int)) (hj2 : j < 257) : spl (isK ts k) j [.v (.bool true)] = isK ts (k + 1) := by
  unfold isK
  rw [b_spl true hj2]
  congr 1
  funext i
  by_cases e : i = j
  · subst e
    rw [if_pos rfl, eq_comm, decide_eq_true_eq, take_mem_succ hk]
    exact .inr (by omega)
  · rw [if_neg e, decide_eq_decide, take_mem_succ hk]
    constructor
    · exact .inl
    · rintro (h | h)
      · exact h
      · omega
theorem is_getD (ts : List Int) (k : Nat) {j : Nat} (hj : j < 257) : (isK ts k).getD j .any = .v (.bool (decide ((j : Int) - 128 ∈ ts.take k))) := fn_getD _ hj
@[simp high] theorem d_is_ld {ti : TI} {ts : List Int} {k j : Nat} (hg : ti.agg = false) (hj : j < 257) : ldA ti (List.drop j (isK ts k)) = .v (.bool (decide ((j : Int) - 128 ∈ ts.take k))) := ld_fn hg hj
theorem open11_looks (N : Int) (L : List (List Int)) (ts c : List Int) (objs : List (Nat × AObj)) (ids : List Nat) (hc : ∀ y ∈ c, -128 ≤ y ∧ y ≤ 128) (h8 : lk objs 8 = some ⟨102, 1, [[.ptr 2 0 0]]⟩) (h2 : lk objs 2 = some ⟨98, 257, [isK ts ts.length]⟩) : Looks Try.prog objs ids 96 [.ptr 8 0 0] (avI c) (onI fun y => decide (y ∈ ts)) := by
  refine ⟨by kernel_rfl, _, _, Try.func96, rfl, by simp [Try.ntmps96], fun x hxm B hI hro => ?_⟩
  obtain ⟨y, hy, rfl⟩ := List.mem_map.1 hxm
  obtain ⟨r1, r2⟩ := hc y hy
  have hw : IntKind.i64.wrap (128 + y) = 128 + y := i64w (by omega) (by omega)
  have hi0 : 0 ≤ 128 + y := by omega
  have hi1 : 128 + y < 257 := by omega
  have hmx : max (128 + y) 0 = 128 + y := by omega
  have hi2 : (128 + y).toNat < 257 := by omega
  have hi3 : 128 + y ≤ 256 := by omega
  have hy2 : 128 + y - 128 = y := by omega
  rw [Try.ntmps96, Try.results96]
  simp only [enumA]
  repeat (first | with_reducible first | refine s_seq ?_ | refine k_seq ?_ | refine k_seq_ret ?_ | refine k_seq_exit ?_ | refine k_blk ?_ | refine k_blk_ret ?_ | refine k_blk_exit ?_ | refine k_lp_ret ?_ | refine k_lp_exit ?_ | refine ki_lp_ret ?_ | refine ki_lp_exit ?_ | refine s_block ?_ | refine sp_skip ?_ | refine sp_ret ?_ | refine sp_exit ?_ | ((with_reducible refine k_blk_out ?_ ?_); (focus decide)) | ((with_reducible refine s_cond_t ?_ ?_); (focus (simp [-List.getD_eq_getElem?_getD, *]; done))) | ((with_reducible refine s_cond_f ?_ ?_); (focus (simp [-List.getD_eq_getElem?_getD, *]; done))) | (focus ((with_reducible refine s_region2 (q := ?_) (σ' := ?_) TT_ok PT15_ok ?_ ?_ ?_); rotate_left 2; (focus (first | (simp; exact Eq.refl _) | exact Eq.refl _)); (focus ((repeat (((with_reducible refine runL_cons (σ1 := ?_) ?_ ?_); rotate_left; (focus (simp [-List.getD_eq_getElem?_getD, *]; rfl))))); (exact runL_nil))))) | (focus ((with_reducible refine s_draw2 (q := ?_) (es := ?_) (σ' := ?_) prog_mixed TT_ok PT15_ok ?_ ?_ ?_ ?_); rotate_left 3; (focus (first | (simp; exact Eq.refl _) | exact Eq.refl _)); (focus ((repeat (((with_reducible refine runE_cons (e := ?_) (σ1 := ?_) (es := ?_) ?_ ?_ ?_); rotate_left 3; (focus (simp [-List.getD_eq_getElem?_getD, *]; exact Eq.refl _)); (focus (simp [-List.getD_eq_getElem?_getD]; exact Eq.refl _))))); (exact runE_nil))); (focus (first | kernel_rfl | decide)))))
  refine ⟨.inr rfl, ?_, rfl, rfl⟩
  simp [retA, retL, ret1, lk, st, onI]
  rw [← List.getD_eq_getElem?_getD, is_getD ts ts.length hi2, List.take_length, show (((128 + y).toNat : Nat) : Int) - 128 = y by omega]
end Go.Proofs.Ythdjgcjpolpgdaa
