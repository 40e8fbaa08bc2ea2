/- Contract of censusref17.Small, by the abstract machine; no condition. -/
import Derived.Test.YtafikekndefjcaaDoorKy
import Derived.Test.YtafikekndefjcaaDoorWa
namespace Go.Proofs.YtafikekndefjcaaDoor
set_option linter.unusedVariables false
set_option linter.unusedSimpArgs false
set_option linter.unusedSectionVars false
open Go.RowKit
attribute [local simp] List.getD_cons_zero List.getD_cons_succ List.getD_nil undef gvars runL runE effA stepA dstOk wantA core lk st dl AS.ev AS.evs AS.put AS.upd updO updI nxt cPick cAlloc cBox cBuild cBuildS cLoad cStore cNil plainOf cBin cNilS isNilS nilA cUn cConvX cConvB cConv bytesOf rowB cMake cSlice slA idxA cFA cF cIA cIX cIS cI cExt cLen cApp cMM cFun cCall lenA lenM isNilM nilM cNilM cMakeM hintB cMapK cLook foundR lookR cUpd putM cDel delM findA isKeyB Instr.sameNow AS.entry AS.bound AS.callee sc1 sc2 ixOk ldA AV.flat AV.cell AV.cells Value.oneCell' fillA spl chunk zeros AS.parts AS.rows AS.shut AS.shut1 AS.shut2 AS.shutL AS.shutM AV.ids idsL idsLL eqAll bndA AV.scalar AV.scalar1 AV.isV Ef.app Ef.pk ptOf pntO wrO wr
attribute [-simp] List.getD_eq_getElem?_getD
set_option maxRecDepth 100000
def nmR (s : BitVec 128) (v : Nat) : List Int := ((List.range v).map fun i : Nat => ((i : Int) + 1)).filter fun v => sHas s v
theorem nmR_succ (s : BitVec 128) (v : Nat) : nmR s (v + 1) = nmR s v ++ if sHas s ((v : Int) + 1) = true then [(v : Int) + 1] else [] := by
  unfold nmR
  rw [List.range_succ, List.map_append, List.filter_append]
  congr 1
  simp only [List.map_cons, List.map_nil, List.filter_cons, List.filter_nil]
theorem nmR_len (s : BitVec 128) (v : Nat) : (nmR s v).length ≤ v := by
  unfold nmR
  exact Nat.le_trans (List.length_filter_le _ _) (by simp)
theorem nmR_full {s : BitVec 128} {n : Nat} (h : ∀ v, sHas s v = true → v ≤ (n : Int)) : nmR s n = listS s := by
  refine strict_unique (lt := (· < · : Int → Int → Prop)) (fun a b h => by omega) ?_ (listS_sorted s) fun z => ?_
  · exact List.Pairwise.filter _ (List.pairwise_map.2 (List.pairwise_lt_range.imp fun h => by omega))
  · rw [listS_mem]
    unfold nmR
    rw [List.mem_filter, List.mem_map]
    constructor
    · exact fun h => h.2
    · intro hh
      have h1 := sHas_mem hh
      have h2 := h z hh
      exact ⟨⟨(z - 1).toNat, List.mem_range.2 (by omega), by omega⟩, hh⟩
def refLit (names : List Int) (x : Int) (m : Nat) : List Int := (List.range m).flatMap fun j => (if x = names.getD j 0 then [(j : Int) + 1] else []) ++ (if x = -(names.getD j 0) then [-(j : Int) - 1] else [])
theorem refLit_succ (names : List Int) (x : Int) (m : Nat) : refLit names x (m + 1) = refLit names x m ++ ((if x = names.getD m 0 then [(m : Int) + 1] else []) ++ (if x = -(names.getD m 0) then [-(m : Int) - 1] else [])) := by
  unfold refLit
  rw [List.range_succ, List.flatMap_append]; simp
theorem refLit_len (names : List Int) (x : Int) : ∀ m, (refLit names x m).length ≤ 2 * m
  | 0 => by simp [refLit]
  | m + 1 => by
    have := refLit_len names x m
    rw [refLit_succ, List.length_append, List.length_append]
    split <;> split <;> simp <;> omega
theorem refLit_full {names : List Int} (h : Names names) {x : Int} (hx : litVar x ∈ names) : refLit names x names.length = [renl (numOf names) x] := by
  obtain ⟨i, hi, e⟩ := mem_getD hx
  have hn := numOf_get h hi
  rw [e] at hn
  have hr := h.r _ hx
  have ha := isLit_abs (show isLit x = true by unfold isLit; simp; omega)
  have key : ∀ m, m ≤ names.length → refLit names x m = if i < m then [renl (numOf names) x] else [] := by
    intro m
    induction m with
    | zero => intro _; simp [refLit]
    | succ m ih =>
      intro hm
      rw [refLit_succ, ih (by omega)]
      by_cases hmi : m = i
      · subst hmi
        rw [if_neg (Nat.lt_irrefl _), if_pos (Nat.lt_succ_self _), List.nil_append, e]
        unfold renl
        rw [hn]
        by_cases hx0 : x < 0
        · rw [if_neg (by omega), if_pos (by omega), if_pos hx0]
          simp; omega
        · rw [if_pos (by omega), if_neg (by omega), if_neg hx0]
          simp
      · have hne : names.getD m 0 ≠ litVar x := by
          rw [← e]
          rcases Nat.lt_or_gt_of_ne hmi with hh | hh
          · have := sortedI_get h.s hh hi; omega
          · have := sortedI_get h.s hh (by omega); omega
        have hrm := h.r _ (getD_memI (show m < names.length by omega))
        have hx1 : ¬ x = names.getD m 0 := by omega
        have hx2 : ¬ x = -(names.getD m 0) := by omega
        rw [if_neg hx1, if_neg hx2]
        by_cases hlt : i < m
        · rw [if_pos hlt, if_pos (by omega)]; simp
        · rw [if_neg hlt, if_neg (by omega)]; simp
  rw [key _ (Nat.le_refl _), if_pos hi]
def accM (ck names : List Int) (x : Int) (m : Nat) : List Int := ck ++ refLit names x m
theorem accM_succ (ck names : List Int) (x : Int) (m : Nat) : accM ck names x (m + 1) = accM ck names x m ++ ((if x = names.getD m 0 then [(m : Int) + 1] else []) ++ (if x = -(names.getD m 0) then [-(m : Int) - 1] else [])) := by
  unfold accM; rw [refLit_succ, List.append_assoc]
theorem accM_len (ck names : List Int) (x : Int) (m : Nat) : (accM ck names x m).length ≤ ck.length + 2 * m := by
  have := refLit_len names x m
  unfold accM; rw [List.length_append]; omega
def outK (f : Int → Int) (Z : List (List Int)) (i : Nat) : List (List Int) := (Z.take i).map fun c => c.map f
theorem outK_succ (f : Int → Int) {Z : List (List Int)} {i : Nat} (hi : i < Z.length) : outK f Z (i + 1) = outK f Z i ++ [(Z.getD i []).map f] := by
  have e : Z.getD i [] = Z[i] := by simp [List.getD, hi]
  unfold outK
  rw [List.take_succ_eq_append_getElem hi, List.map_append, e]; rfl
theorem outK_len (f : Int → Int) {Z : List (List Int)} {i : Nat} (hi : i ≤ Z.length) : (outK f Z i).length = i := by unfold outK; rw [List.length_map, List.length_take]; omega
def rowK (f : Int → Int) (c : List Int) (k : Nat) : List Int := (c.take k).map f
theorem rowK_succ (f : Int → Int) {c : List Int} {k : Nat} (hk : k < c.length) : rowK f c (k + 1) = rowK f c k ++ [f (c.getD k 0)] := by
  have e : c.getD k 0 = c[k] := by simp [List.getD, hk]
  unfold rowK
  rw [List.take_succ_eq_append_getElem hk, List.map_append, e]; rfl
theorem rowK_len (f : Int → Int) {c : List Int} {k : Nat} (hk : k ≤ c.length) : (rowK f c k).length = k := by unfold rowK; rw [List.length_map, List.length_take]; omega
theorem rSmall_ok (N : Int) (L : List (List Int)) (hN : okI N = true) (h : okRows L = true) (hz : checkT N L = 0) : FnPure Tryd.prog 16 [aTh N L] (smallA N L) := by
  have hrn : rNormA N L = .tup [.agg [.v (.int .i64 N), aRows (normL L)], .v (.int .i64 0)] := by unfold rNormA; rw [if_pos hz, ← normL_rNorm hz]; rfl
  unfold smallA
  rw [if_pos hz]
  have hz2 := normL_check hz
  obtain ⟨h0, h1, hl4, hl3⟩ := checkT_ok hz2
  have hZr := okRows_check hz2
  generalize normL L = Z at hrn hz2 hZr hl4 hl3 ⊢
  have hgood := fun c (hc : c ∈ Z) => good_vars hz2 hc
  have hvO : varsOf N Z = varsT Z := by unfold varsOf; rw [if_pos hz2]
  have hNm := names_listS (varsT Z)
  have hR := ren_small (varsT Z)
  have hnl := names_len hNm
  have hvs : ∀ v, sHas (varsT Z) v = true → v ≤ (N.toNat : Int) := fun v hv => by
    obtain ⟨_, c, hc, l, hl, rfl⟩ := (sHas_varsT Z v).1 hv
    have := litVar_abs ((hl3 c hc).2 l hl)
    omega
  have hnf := nmR_full hvs
  unfold smallL smallN smallR
  generalize varsT Z = S at hgood hvO hNm hR hnl hnf ⊢
  unfold aTh
  refine fn_sp TT_ok Tryd.func16 (c := _) rfl (by simp [Tryd.ntmps16]) (fun B hI0 hro => ?_)
  rw [Tryd.ntmps16]
  simp only [enumA]
  refine amGo PT81_ok (h := ?_)
  refine s_nil 8 40 3 1 (by simp [lk]) (by simp) ?_
  simp only [st]
  refine s_loop (J := fun k : {k : Nat // k ≤ N.toNat} => ⟨106, [(2, .ptr 1 0 0), (5, .ptr 7 0 0), (7, .ptr 10 0 0), (8, .ref 40 0 (nmR S k.1).length), (9, .v (.int .i64 ((k.1 : Int) + 1)))], [(40, ⟨3, 1, (nmR S k.1).map fun x => [.v (.int .i64 x)]⟩), (1, ⟨24, 2, [[.v (.int .i64 0), .v (.slice none 0 0)]]⟩), (7, ⟨24, 2, [[.v (.int .i64 N), aRows Z]]⟩), (10, ⟨45, 2, [[.v (.int .u64 ((lo S).toNat : Int)), .v (.int .u64 ((hi S).toNat : Int))]]⟩)], [40, 10, 7, 1]⟩) (μ := fun k => N.toNat - k.1) ⟨0, Nat.zero_le _⟩ ?_ (fun ⟨k, hk⟩ => ?_)
  · have h00 : nmR S 0 = [] := rfl
    (refine weak_id rfl ?_ ?_ <;> ((try simp only [List.mem_cons, List.not_mem_nil, or_false, forall_eq_or_imp, forall_eq]); (try simp (disch := omega) [i64w, *])))
    all_goals rfl
  have hkl := nmR_len S k
  have hcap : ((nmR S k).length + 1) * 8 ≤ 140737488355328 := by omega
  have hsn := nmR_succ S k
  have hok1 : okI ((k : Int) + 1) = true := okI_iff.2 ⟨by omega, by omega⟩
  have hw : IntKind.i64.wrap ((k : Int) + 1 + 1) = (k : Int) + 1 + 1 := i64w (by omega) (by omega)
  refine amGo PT81_ok (h := ?_)
  (focus ((with_reducible refine sp_cond (b := ?_) ?_ (fun hc => ?_) (fun hc => ?_)); rotate_left; (focus (first | rfl | (simp [lk, AS.ev]; rfl))); all_goals (try simp at hc)))
  · have hkk : k < N.toNat := by omega
    clear hc
    cases hs : sHas S ((k : Int) + 1)
    · rw [hs] at hsn
      simp only [Bool.false_eq_true, if_false, List.append_nil] at hsn
      refine amGo PT81_ok (h := ?_)
      refine k_lp (⟨k + 1, by omega⟩ : {k : Nat // k ≤ N.toNat}) (by dsimp only; omega) ?_
      (refine weak_id rfl ?_ ?_ <;> ((try simp only [List.mem_cons, List.not_mem_nil, or_false, forall_eq_or_imp, forall_eq]); (try simp (disch := omega) [i64w, *])))
    · rw [hs] at hsn
      simp only [if_true] at hsn
      refine amGo PT81_ok (h := ?_)
      refine k_lp (⟨k + 1, by omega⟩ : {k : Nat // k ≤ N.toNat}) (by dsimp only; omega) ?_
      (refine weak_of (fun q => if q = 40 then 44 else q) ⟨rfl, ?_, ?_, ?_⟩ <;> ((try simp only [List.mem_cons, List.not_mem_nil, or_false, forall_eq_or_imp, forall_eq]); (try simp (disch := omega) [lk, AV.ids, idsL, idsLL, AV.ren, renL, renLL, i64w, *])))
  · obtain rfl : k = N.toNat := by omega
    clear hc hcap hsn hw hok1
    rw [hnf] at hkl ⊢
    clear hvs hnf
    have hin : ∀ v, sHas S v = true → v ∈ listS S := fun v h => (listS_mem S v).2 h
    generalize listS S = names at *
    obtain ⟨f, hf⟩ : ∃ f, renl (numOf names) = f := ⟨_, rfl⟩
    rw [hf]
    refine amGo PT81_ok (h := ?_)
    refine s_frz (fun q => q == 40) ?_
    (refine s_eq (τ := ?_) ?_ ?_; rotate_left; (focus ((try simp only [AS.frz, List.map_cons, List.map_nil]); (try simp [frzV, frzO, frzC, List.filter]); rfl)))
    refine s_cnil 44 0 1 41 28 1 rfl rfl (by simp) ?_ (by decide)
    (refine s_eq (τ := ?_) ?_ ?_; rotate_left; (focus ((try simp only [AS.frz, List.map_cons, List.map_nil]); (try simp [frzV, frzO, frzC, List.filter]); rfl)))
    refine s_loop (J := fun i : {i : Nat // i ≤ Z.length} => ⟨106, [(2, .ptr 1 0 0), (5, .ptr 7 0 0), (8, aInts names), (10, .ptr 44 0 0), (11, .v (.int .i64 (i.1 : Int)))], [(41, ⟨28, 1, (outK f Z i.1).map fun xs => [aInts xs]⟩), (1, ⟨24, 2, [[.v (.int .i64 0), .v (.slice none 0 0)]]⟩), (7, ⟨24, 2, [[.v (.int .i64 N), aRows Z]]⟩), (44, ⟨24, 2, [[.v (.int .i64 (names.length : Int)), .ref 41 0 i.1]]⟩)], [44, 41, 7, 1]⟩) (μ := fun i => Z.length - i.1) ⟨0, Nat.zero_le _⟩ ?_ (fun ⟨i, hi⟩ => ?_)
    · have ho0 : outK f Z 0 = [] := rfl
      (refine weak_id rfl ?_ ?_ <;> ((try simp only [List.mem_cons, List.not_mem_nil, or_false, forall_eq_or_imp, forall_eq]); (try simp (disch := omega) [i64w, *])))
    have c1 : (i + 1) * 24 ≤ 140737488355328 := by omega
    have hil := outK_len f hi
    refine amGo PT81_ok (h := ?_)
    (focus ((with_reducible refine sp_cond (b := ?_) ?_ (fun hc => ?_) (fun hc => ?_)); rotate_left; (focus (first | rfl | (simp [lk, AS.ev]; rfl))); all_goals (try simp at hc)))
    · have hii := hc
      clear hc
      have hgc := hgood _ (getD_memL hii)
      have hrow := okRows_at hZr i
      have hrl := okInts_len hrow
      have htk := outK_succ f hii
      have hc128 := (hl3 _ (getD_memL hii)).1
      obtain ⟨c, hcc⟩ : ∃ c, Z.getD i [] = c := ⟨_, rfl⟩
      rw [hcc] at hgc hrow hrl htk hc128
      refine amGo PT81_ok (h := ?_)
      refine s_nil 12 42 3 1 (by simp [lk]) (by simp) ?_
      simp only [st]
      refine s_loop (J := fun k : {k : Nat // k ≤ c.length} => ⟨106, [(2, .ptr 1 0 0), (5, .ptr 7 0 0), (8, aInts names), (10, .ptr 44 0 0), (11, .v (.int .i64 (i : Int))), (12, .ref 42 0 k.1), (13, .v (.int .i64 (k.1 : Int)))], [(42, ⟨3, 1, (rowK f c k.1).map fun x => [.v (.int .i64 x)]⟩), (41, ⟨28, 1, (outK f Z i).map fun xs => [aInts xs]⟩), (1, ⟨24, 2, [[.v (.int .i64 0), .v (.slice none 0 0)]]⟩), (7, ⟨24, 2, [[.v (.int .i64 N), aRows Z]]⟩), (44, ⟨24, 2, [[.v (.int .i64 (names.length : Int)), .ref 41 0 i]]⟩)], [42, 44, 41, 7, 1]⟩) (μ := fun k => c.length - k.1) ⟨0, Nat.zero_le _⟩ ?_ (fun ⟨k, hk⟩ => ?_)
      · have hr0 : rowK f c 0 = [] := rfl
        (refine weak_id rfl ?_ ?_ <;> ((try simp only [List.mem_cons, List.not_mem_nil, or_false, forall_eq_or_imp, forall_eq]); (try simp (disch := omega) [i64w, *])))
      refine amGo PT81_ok (h := ?_)
      (focus ((with_reducible refine sp_cond (b := ?_) ?_ (fun hc => ?_) (fun hc => ?_)); rotate_left; (focus (first | rfl | (simp [lk, AS.ev]; rfl))); all_goals (try simp at hc)))
      · have hkk := hc
        clear hc
        have hg := hgc _ (getD_memI hkk)
        have hxr := okInts_at hrow k
        have hckl := rowK_len f hk
        have hct := rowK_succ f hkk
        obtain ⟨x, hx⟩ : ∃ x, c.getD k 0 = x := ⟨_, rfl⟩
        rw [hx] at hg hxr hct
        have hfin : accM (rowK f c k) names x names.length = rowK f c (k + 1) := by
          unfold accM
          rw [hct, refLit_full hNm ((hin _ hg)), hf]
        obtain ⟨ck, hck⟩ : ∃ ck, rowK f c k = ck := ⟨_, rfl⟩
        rw [hck] at hckl hct hfin
        refine amGo PT81_ok (h := ?_)
        refine s_loop (J := fun m : {m : Nat // m ≤ names.length} => ⟨106, [(2, .ptr 1 0 0), (5, .ptr 7 0 0), (8, aInts names), (10, .ptr 44 0 0), (11, .v (.int .i64 (i : Int))), (12, .ref 42 0 (accM ck names x m.1).length), (13, .v (.int .i64 (k : Int))), (14, .v (.int .i64 x)), (15, .v (.int .i64 (m.1 : Int)))], [(42, ⟨3, 1, (accM ck names x m.1).map fun x => [.v (.int .i64 x)]⟩), (41, ⟨28, 1, (outK f Z i).map fun xs => [aInts xs]⟩), (1, ⟨24, 2, [[.v (.int .i64 0), .v (.slice none 0 0)]]⟩), (7, ⟨24, 2, [[.v (.int .i64 N), aRows Z]]⟩), (44, ⟨24, 2, [[.v (.int .i64 (names.length : Int)), .ref 41 0 i]]⟩)], [42, 44, 41, 7, 1]⟩) (μ := fun m => names.length - m.1) ⟨0, Nat.zero_le _⟩ ?_ (fun ⟨m, hm⟩ => ?_)
        · have ha0 : accM ck names x 0 = ck := by simp [accM, refLit]
          (refine weak_id rfl ?_ ?_ <;> ((try simp only [List.mem_cons, List.not_mem_nil, or_false, forall_eq_or_imp, forall_eq]); (try simp (disch := omega) [i64w, *])))
        have hal := accM_len ck names x m
        have hcap : ((accM ck names x m).length + 1) * 8 ≤ 140737488355328 := by omega
        have has := accM_succ ck names x m
        have hw1 : IntKind.i64.wrap ((m : Int) + 1) = (m : Int) + 1 := i64s m (by omega)
        have hw2 : IntKind.i64.wrap (-(m : Int)) = -(m : Int) := i64w (by omega) (by omega)
        have hw3 : IntKind.i64.wrap (-(m : Int) - 1) = -(m : Int) - 1 := i64w (by omega) (by omega)
        refine amGo PT81_ok (h := ?_)
        (focus ((with_reducible refine sp_cond (b := ?_) ?_ (fun hc => ?_) (fun hc => ?_)); rotate_left; (focus (first | rfl | (simp [lk, AS.ev]; rfl))); all_goals (try simp at hc)))
        · have hmm := hc
          clear hc
          have hnr := hNm.r _ (getD_memI hmm)
          generalize hy : names.getD m 0 = y at has hnr
          have hwy : IntKind.i64.wrap (-y) = -y := i64w (by omega) (by omega)
          by_cases e1 : x = y
          · have e2 : ¬ x = -y := by omega
            rw [if_pos e1, if_neg e2, List.append_nil] at has
            have b1 : (x == y) = true := by simpa using e1
            have b2 : (x == -y) = false := by simpa using e2
            clear e1 e2
            refine amGo PT81_ok (h := ?_)
            refine k_lp (⟨m + 1, by omega⟩ : {m : Nat // m ≤ names.length}) (by dsimp only; omega) ?_
            (refine weak_of (fun q => if q = 42 then 49 else q) ⟨rfl, ?_, ?_, ?_⟩ <;> ((try simp only [List.mem_cons, List.not_mem_nil, or_false, forall_eq_or_imp, forall_eq]); (try simp (disch := omega) [lk, AV.ids, idsL, idsLL, AV.ren, renL, renLL, i64w, *])))
          · have b1 : (x == y) = false := by simpa using e1
            rw [if_neg e1, List.nil_append] at has
            by_cases e2 : x = -y
            · rw [if_pos e2] at has
              have b2 : (x == -y) = true := by simpa using e2
              clear e1 e2
              refine amGo PT81_ok (h := ?_)
              refine k_lp (⟨m + 1, by omega⟩ : {m : Nat // m ≤ names.length}) (by dsimp only; omega) ?_
              (refine weak_of (fun q => if q = 42 then 50 else q) ⟨rfl, ?_, ?_, ?_⟩ <;> ((try simp only [List.mem_cons, List.not_mem_nil, or_false, forall_eq_or_imp, forall_eq]); (try simp (disch := omega) [lk, AV.ids, idsL, idsLL, AV.ren, renL, renLL, i64w, *])))
            · rw [if_neg e2, List.append_nil] at has
              have b2 : (x == -y) = false := by simpa using e2
              clear e1 e2
              refine amGo PT81_ok (h := ?_)
              refine k_lp (⟨m + 1, by omega⟩ : {m : Nat // m ≤ names.length}) (by dsimp only; omega) ?_
              (refine weak_id rfl ?_ ?_ <;> ((try simp only [List.mem_cons, List.not_mem_nil, or_false, forall_eq_or_imp, forall_eq]); (try simp (disch := omega) [i64w, *])))
        · obtain rfl : m = names.length := by omega
          clear hc hal hcap has hw1 hw2 hw3
          rw [hfin]
          have hl2 := rowK_len f (show k + 1 ≤ c.length by omega)
          refine amGo PT81_ok (h := ?_)
          refine k_lp (⟨k + 1, by omega⟩ : {k : Nat // k ≤ c.length}) (by dsimp only; omega) ?_
          (refine weak_id rfl ?_ ?_ <;> ((try simp only [List.mem_cons, List.not_mem_nil, or_false, forall_eq_or_imp, forall_eq]); (try simp (disch := omega) [i64w, *])))
      · obtain rfl : k = c.length := by omega
        clear hc
        have hfull : rowK f c c.length = c.map f := by unfold rowK; rw [List.take_length]
        rw [hfull]
        have hml : (c.map f).length = c.length := List.length_map ..
        generalize c.map f = d at htk hml ⊢
        refine amStr (h := ?_)
        refine amReg PT81_ok (h := ?_)
        rw [← hml]
        refine s_frz (fun q => q == 42) ?_
        (refine s_eq (τ := ?_) ?_ ?_; rotate_left; (focus ((try simp only [AS.frz, List.map_cons, List.map_nil]); (try simp [frzV, frzO, frzC, List.filter]); rfl)))
        refine amGo PT81_ok (h := ?_)
        refine k_lp (⟨i + 1, by omega⟩ : {i : Nat // i ≤ Z.length}) (by dsimp only; omega) ?_
        (refine weak_of (fun q => if q = 41 then 49 else q) ⟨rfl, ?_, ?_, ?_⟩ <;> ((try simp only [List.mem_cons, List.not_mem_nil, or_false, forall_eq_or_imp, forall_eq]); (try simp (disch := omega) [lk, AV.ids, idsL, idsLL, AV.ren, renL, renLL, i64w, *])))
    · obtain rfl : i = Z.length := by omega
      clear hc
      have hfull : outK f Z Z.length = Z.map fun c => c.map f := by unfold outK; rw [List.take_length]
      rw [hfull] at hil ⊢
      generalize (Z.map fun c => c.map f) = U at hil ⊢
      refine amStr (h := ?_)
      refine amReg PT81_ok (h := ?_)
      rw [← hil]
      clear hil
      refine amGo PT81_ok (h := ?_)
      ((refine post_ret (av := ?_) (by first | exact .inl rfl | exact .inr rfl) (show (Tryd.f16).results.toList = _ from by rw [Tryd.results16]) ?_ ?_); rotate_left; (focus (simp [retA, retL, ret1, lk, st, ldA, AV.cell]; rfl)); (try simp [*]))
theorem rSmall_p (N : Int) (L : List (List Int)) (hN : okI N = true) (h : okRows L = true) : FnPure Tryd.prog 16 [aTh N L] (smallA N L) := by
  by_cases hz : checkT N L = 0
  · exact rSmall_ok N L hN h hz
  · have hrn : rNormA N L = .tup [.agg [.v (.int .i64 0), .v (.slice none 0 0)], .v (.int .i64 (checkT N L))] := by unfold rNormA; rw [if_neg hz]
    have hne : (checkT N L != 0) = true := by simpa using hz
    unfold smallA
    rw [if_neg hz]
    unfold aTh
    refine fn_sp TT_ok Tryd.func16 (c := _) rfl (by simp [Tryd.ntmps16]) (fun B hI0 hro => ?_)
    rw [Tryd.ntmps16]
    simp only [enumA]
    refine amGo PT81_ok (h := ?_)
    ((refine post_ret (av := ?_) (by first | exact .inl rfl | exact .inr rfl) (show (Tryd.f16).results.toList = _ from by rw [Tryd.results16]) ?_ ?_); rotate_left; (focus (simp [retA, retL, ret1, lk, st, ldA, AV.cell]; rfl)); (try simp [*]))
@[simp] def g_rSmall : List AV → Option (AV × Bool)
  | [.agg [.v (.int .i64 N), a0]] => (match toRows a0 with | some L => if (okI N && okRows L) = true then some (smallA N L, false) else none | none => none)
  | _ => none
theorem e_rSmall : EntOk Tryd.prog 16 g_rSmall := ent_pure (by kernel_rfl) fun args r fr h => by
  unfold g_rSmall at h
  split at h
  · rename_i N a0
    split at h
    · rename_i L t0
      split at h
      · rename_i hc
        simp only [Bool.and_eq_true] at hc
        obtain ⟨m0, o0⟩ := hc
        cases h
        exact ⟨FnPure.cov (rSmall_p N L m0 o0) (.cons (cov_th _ (cov_rows t0)) .nil), rfl⟩
      · cases h
    · cases h
  · cases h

def l82 : List (FuncId × (List AV → Option (AV × Bool))) :=
  (16, g_rSmall) :: l81
theorem l82_ok : ∀ p ∈ l82, EntOk Tryd.prog p.1 p.2 := ent_cons e_rSmall (l81_ok)
def PT82 : PTab := tab l82
theorem PT82_ok : PTok Tryd.prog PT82 := tab_ok l82_ok
@[simp] theorem PT82_litVar : PT82 37 = g_litVar := rfl
@[simp] theorem PT82_litValid : PT82 60 = g_litValid := rfl
@[simp] theorem PT82_check : PT82 41 = g_check := rfl
@[simp] theorem PT82_with : PT82 55 = g_with := rfl
@[simp] theorem PT82_all : PT82 43 = g_all := rfl
@[simp] theorem PT82_rValid : PT82 75 = g_rValid := rfl
@[simp] theorem PT82_rHas : PT82 40 = g_rHas := rfl
@[simp] theorem PT82_rCheck : PT82 56 = g_rCheck := rfl
@[simp] theorem PT82_litvalid : PT82 66 = g_litvalid := rfl
@[simp] theorem PT82_opposite : PT82 68 = g_opposite := rfl
@[simp] theorem PT82_clone : PT82 81 = g_clone := rfl
@[simp] theorem PT82_order : PT82 67 = g_order := rfl
@[simp] theorem PT82_clause : PT82 48 = g_clause := rfl
@[simp] theorem PT82_equal : PT82 52 = g_equal := rfl
@[simp] theorem PT82_distinct : PT82 51 = g_distinct := rfl
@[simp] theorem PT82_normal : PT82 34 = g_normal := rfl
@[simp] theorem PT82_rContains : PT82 76 = g_rContains := rfl
@[simp] theorem PT82_rSameInts : PT82 18 = g_rSameInts := rfl
@[simp] theorem PT82_rAbs : PT82 59 = g_rAbs := rfl
@[simp] theorem PT82_rBefore : PT82 77 = g_rBefore := rfl
@[simp] theorem PT82_rSorted : PT82 57 = g_rSorted := rfl
@[simp] theorem PT82_rPut : PT82 58 = g_rPut := rfl
@[simp] theorem PT82_rNormal : PT82 38 = g_rNormal := rfl
@[simp] theorem PT82_place : PT82 74 = g_place := rfl
@[simp] theorem PT82_vHas : PT82 79 = g_vHas := rfl
@[simp] theorem PT82_vMinus : PT82 61 = g_vMinus := rfl
@[simp] theorem PT82_vSub : PT82 42 = g_vSub := rfl
@[simp] theorem PT82_litHolds : PT82 64 = g_litHolds := rfl
@[simp] theorem PT82_litAny : PT82 44 = g_litAny := rfl
@[simp] theorem PT82_thEval : PT82 24 = g_thEval := rfl
@[simp] theorem PT82_rSame : PT82 17 = g_rSame := rfl
@[simp] theorem PT82_thVars : PT82 36 = g_thVars := rfl
@[simp] theorem PT82_rVars : PT82 39 = g_rVars := rfl
@[simp] theorem PT82_light : PT82 12 = g_light := rfl
@[simp] theorem PT82_vList : PT82 35 = g_vList := rfl
@[simp] theorem PT82_cSmall : PT82 15 = g_cSmall := rfl
@[simp] theorem PT82_rSmall : PT82 16 = g_rSmall := rfl
end Go.Proofs.YtafikekndefjcaaDoor
