/- Contract of trace.Left, by the abstract machine; no condition. -/
import Derived.Test.YthdjgcjpolpgdaaTr1
import Derived.Test.YthdjgcjpolpgdaaWa
namespace Go.Proofs.Ythdjgcjpolpgdaa
set_option linter.unusedVariables false
set_option linter.unusedSimpArgs false
set_option linter.unusedSectionVars false
open Go.RowKit
attribute [local simp] List.getD_cons_zero List.getD_cons_succ List.getD_nil undef gvars runL runE effA stepA dstOk wantA core lk st dl AS.ev AS.evs AS.put AS.upd updO updI nxt cPick cAlloc cBox cBuild cBuildS cLoad cStore cNil plainOf cBin cNilS isNilS nilA cUn cConvX cConvB cConv bytesOf rowB cMake cSlice slA idxA cFA cF cIA cIX cIS cI cExt cLen cApp cMM cFun cCall lenA lenM isNilM nilM cNilM cMakeM hintB cMapK cLook foundR lookR cUpd putM cDel delM findA isKeyB Instr.sameNow AS.entry AS.bound AS.callee sc1 sc2 ixOk ldA AV.flat AV.cell AV.cells Value.oneCell' fillA spl chunk zeros AS.parts AS.rows AS.shut AS.shut1 AS.shut2 AS.shutL AS.shutM AV.ids idsL idsLL eqAll bndA AV.scalar AV.scalar1 AV.isV Ef.app Ef.pk ptOf pntO wrO wr
attribute [-simp] List.getD_eq_getElem?_getD
set_option maxRecDepth 100000
def keptF (L : List (List Int)) (ts : List Int) (i : Int) : Bool := !((L.getD i.toNat []).any fun l => decide (l ∈ ts))
def keptL (L : List (List Int)) (ts cs : List Int) : List Int := cs.filter (keptF L ts)
theorem keptL_succ (L : List (List Int)) (ts : List Int) {cs : List Int} {k : Nat} (h : k < cs.length) : keptL L ts (cs.take (k + 1)) = if keptF L ts (cs.getD k 0) = true then keptL L ts (cs.take k) ++ [cs.getD k 0] else keptL L ts (cs.take k) := by
  unfold keptL
  have : cs.getD k 0 = cs[k] := by simp [List.getD, h]
  rw [List.take_succ_eq_append_getElem h, List.filter_append, this]
  by_cases hq : keptF L ts cs[k] = true
  · rw [if_pos hq]; simp [hq]
  · rw [if_neg hq]; simp [hq]
theorem keptL_len (L : List (List Int)) (ts cs : List Int) : (keptL L ts cs).length ≤ cs.length := List.length_filter_le _ _
theorem good_parts {N m : Int} {ts cs : List Int} (h : goodB N m ts cs = true) : (∀ j, j < ts.length → tmOk N ts j = true) ∧ ∀ j, j < cs.length → ixAsc cs m j = true := by
  simp only [goodB, Bool.and_eq_true, List.all_eq_true] at h
  exact ⟨fun j hj => h.1 j (List.mem_range.2 hj), fun j hj => h.2 j (List.mem_range.2 hj)⟩
theorem good_ix {N m : Int} {ts cs : List Int} (h : goodB N m ts cs = true) : ∀ k, k < cs.length → (k : Int) ≤ cs.getD k 0 ∧ cs.getD k 0 < m := by
  obtain ⟨_, h2⟩ := good_parts h
  intro k
  induction k with
  | zero =>
    intro hk
    have := h2 0 hk
    simp only [ixAsc, lastK, if_true, Bool.and_eq_true, decide_eq_true_eq] at this
    omega
  | succ k ih =>
    intro hk
    have h3 := ih (by omega)
    have := h2 (k + 1) hk
    rw [ixAsc, lastK_succ, Bool.and_eq_true, decide_eq_true_eq, decide_eq_true_eq] at this
    omega
def keptA (N : Int) (L : List (List Int)) (ts cs : List Int) : AV := if checkT N L = 0 ∧ goodB N L.length ts cs = true then .tup [aInts (keptL L ts cs), .v (.int .i64 0)] else .tup [.v (.slice none 0 0), .v (.int .i64 1)]
theorem left1_looks (ts cs xs : List Int) (objs : List (Nat × AObj)) (ids : List Nat) (ht : okInts ts = true) (hx : okInts xs = true) (h1 : lk objs 1 = some ⟨27, 2, [[aInts ts, aInts cs]]⟩) : Looks Try.prog objs ids 49 [.ptr 1 0 0] (avI xs) (onI fun y => decide (y ∈ ts)) := by
  refine ⟨by kernel_rfl, _, _, Try.func49, rfl, by simp [Try.ntmps49], fun x hxm B hI hro => ?_⟩
  obtain ⟨y, hy, rfl⟩ := List.mem_map.1 hxm
  have ho := okInts_mem hx y hy
  rw [Try.ntmps49, Try.results49]
  simp only [enumA]
  refine amGo PT24_ok (h := ?_)
  refine ⟨.inr rfl, ?_, rfl, rfl⟩
  simp [retA, retL, ret1, lk, st, onI]
theorem left_p (N : Int) (L : List (List Int)) (ts cs : List Int) (hN : okI N = true) (hL : okRows L = true) (ht : okInts ts = true) (hc : okInts cs = true) : FnPure Try.prog 20 [aTh N L, aCl ts cs] (keptA N L ts cs) := by
  have lt := okInts_len ht
  have lc := okInts_len hc
  have ll := okRows_len hL
  have hm : okI (L.length : Int) = true := okI_iff.2 ⟨by omega, by omega⟩
  unfold aTh
  by_cases hz : checkT N L = 0
  · cases hg : goodB N L.length ts cs
    · have hA : keptA N L ts cs = .tup [.v (.slice none 0 0), .v (.int .i64 1)] := by unfold keptA; rw [if_neg (by rw [hg]; simp)]
      unfold aCl
      refine fn_sp TT_ok Try.func20 (c := _) rfl (by simp [Try.ntmps20]) (fun B hI0 hro => ?_)
      rw [Try.ntmps20]
      simp only [enumA]
      refine amGo PT24_ok (h := ?_)
      ((refine post_ret (av := ?_) (by first | exact .inl rfl | exact .inr rfl) (show (Try.f20).results.toList = _ from by rw [Try.results20]) ?_ ?_); rotate_left; (focus (simp [retA, retL, ret1, lk, st, ldA, AV.cell]; rfl)); (try simp [*]))
    · have hA : keptA N L ts cs = .tup [aInts (keptL L ts cs), .v (.int .i64 0)] := by unfold keptA; rw [if_pos ⟨hz, hg⟩]
      have hix := good_ix hg
      have lc2 : cs.length ≤ 4096 := by
        have h1 := (checkT_ok hz).2.2.1
        by_cases h0 : cs.length = 0
        · omega
        · have := hix (cs.length - 1) (by omega); omega
      unfold aCl
      refine fn_sp TT_ok Try.func20 (c := _) rfl (by simp [Try.ntmps20]) (fun B hI0 hro => ?_)
      rw [Try.ntmps20]
      simp only [enumA]
      refine amGo PT24_ok (h := ?_)
      refine s_nil 6 40 3 1 (by simp [lk]) (by simp) ?_
      simp only [st]
      refine s_loop (J := fun i : {k : Nat // k ≤ cs.length} => ⟨43, [(2, .ptr 0 0 0), (3, .ptr 1 0 0), (6, .ref 40 0 (keptL L ts (cs.take i.1)).length), (23, aInts cs), (24, .v (.int .i64 (cs.length : Int))), (25, .v (.int .i64 (i.1 : Int)))], [(40, ⟨3, 1, (keptL L ts (cs.take i.1)).map fun x => [.v (.int .i64 x)]⟩), (0, ⟨24, 2, [[.v (.int .i64 N), aRows L]]⟩), (1, ⟨27, 2, [[aInts ts, aInts cs]]⟩)], [40, 1, 0]⟩) (μ := fun i => cs.length - i.1) ⟨0, Nat.zero_le _⟩ ?_ (fun ⟨k, hk⟩ => ?_)
      · have hk0 : keptL L ts [] = [] := rfl
        (refine weak_id rfl ?_ ?_ <;> ((try simp only [List.mem_cons, List.not_mem_nil, or_false, forall_eq_or_imp, forall_eq]); (try simp (disch := omega) [i64w, *])))
      have hlen := keptL_len L ts (cs.take k)
      rw [List.length_take] at hlen
      have hcap : ((keptL L ts (cs.take k)).length + 1) * 8 ≤ 140737488355328 := by omega
      refine amGo PT24_ok (h := ?_)
      (focus ((with_reducible refine sp_cond (b := ?_) ?_ (fun hc => ?_) (fun hc => ?_)); rotate_left; (focus (first | rfl | (simp [lk, AS.ev]; rfl))); all_goals (try simp at hc)))
      · have hkk := hc
        clear hc
        obtain ⟨i0, i1⟩ := hix k hkk
        have hs := keptL_succ L ts hkk
        unfold keptF at hs
        obtain ⟨x, hx⟩ : ∃ x, cs.getD k 0 = x := ⟨_, rfl⟩
        rw [hx] at i0 i1 hs
        have x0 : 0 ≤ x := by omega
        have hmx : max x 0 = x := by omega
        have hx2 : x.toNat < L.length := by omega
        have hci := okRows_at hL x.toNat
        have hcl := okInts_len hci
        obtain ⟨c, hcc⟩ : ∃ c, L.getD x.toNat [] = c := ⟨_, rfl⟩
        rw [hcc] at hci hcl hs
        refine amGo PT24_ok (h := ?_)
        refine s_regionL ?_
        ((iterate 6 (((with_reducible refine spl_step TT_ok PT24_ok (id := 0) (σ' := ?_) ?_ ?_); rotate_left; (focus (simp [*]; rfl))))))
        have hlk := left1_looks ts cs c [(40, ⟨3, 1, (keptL L ts (cs.take k)).map fun x => [.v (.int .i64 x)]⟩), (0, ⟨24, 2, [[.v (.int .i64 N), aRows L]]⟩), (1, ⟨27, 2, [[aInts ts, aInts cs]]⟩)] [40, 1, 0] ht hci rfl
        refine spl_call TT_ok rfl rfl rfl (by kernel_rfl) Try.func48 rfl (avs := [aInts c, .clo 49 [.ptr 1 0 0]]) (cs := []) rfl rfl (by simp [Try.ntmps48]) fun B2 hI2 hro2 => ?_
        refine sp_mono (cntFI_sp (known_of (by simp [AV.ids, idsL, idsLL])) (by omega) (by simp [AV.ids, idsL]) hlk rfl hI2) fun e τ hq => ?_
        obtain ⟨h1, h2, h3, h4⟩ := hq
        refine ⟨h1, _, h2, ?_⟩
        rw [h3, h4]
        ((iterate 1 (((with_reducible refine spl_step TT_ok PT24_ok (id := 0) (σ' := ?_) ?_ ?_); rotate_left; (focus (simp [*]; rfl))))))
        refine spl_nil ?_
        cases hq : c.any fun l => decide (l ∈ ts)
        · rw [hq] at hs
          simp only [Bool.not_false, if_true] at hs
          refine amGo PT24_ok (h := ?_)
          refine k_lp (⟨k + 1, by omega⟩ : {k : Nat // k ≤ cs.length}) (by dsimp only; omega) ?_
          (refine weak_of (fun k => if k = 40 then 44 else k) ⟨rfl, ?_, ?_, ?_⟩ <;> ((try simp only [List.mem_cons, List.not_mem_nil, or_false, forall_eq_or_imp, forall_eq]); (try simp (disch := omega) [lk, AV.ids, idsL, idsLL, AV.ren, renL, renLL, i64w, *])))
        · rw [hq] at hs
          simp only [Bool.not_true, Bool.false_eq_true, if_false] at hs
          refine amGo PT24_ok (h := ?_)
          refine k_lp (⟨k + 1, by omega⟩ : {k : Nat // k ≤ cs.length}) (by dsimp only; omega) ?_
          (refine weak_id rfl ?_ ?_ <;> ((try simp only [List.mem_cons, List.not_mem_nil, or_false, forall_eq_or_imp, forall_eq]); (try simp (disch := omega) [i64w, *])))
      · obtain rfl : k = cs.length := by omega
        rw [List.take_length]
        refine amGo PT24_ok (h := ?_)
        ((refine post_ret (av := ?_) (by first | exact .inl rfl | exact .inr rfl) (show (Try.f20).results.toList = _ from by rw [Try.results20]) ?_ ?_); rotate_left; (focus (simp [retA, retL, ret1, lk, st, ldA, AV.cell]; rfl)); (try simp [*]))
  · have hA : keptA N L ts cs = .tup [.v (.slice none 0 0), .v (.int .i64 1)] := by unfold keptA; rw [if_neg (fun h => hz h.1)]
    have hne : (checkT N L != 0) = true := by simpa using hz
    unfold aCl
    refine fn_sp TT_ok Try.func20 (c := _) rfl (by simp [Try.ntmps20]) (fun B hI0 hro => ?_)
    rw [Try.ntmps20]
    simp only [enumA]
    refine amGo PT24_ok (h := ?_)
    ((refine post_ret (av := ?_) (by first | exact .inl rfl | exact .inr rfl) (show (Try.f20).results.toList = _ from by rw [Try.results20]) ?_ ?_); rotate_left; (focus (simp [retA, retL, ret1, lk, st, ldA, AV.cell]; rfl)); (try simp [*]))
@[simp] def g_trLeft : List AV → Option (AV × Bool)
  | [.agg [.v (.int .i64 N), a0], .agg [a1, b1]] => (match toRows a0 with | some L => (match toInts a1 with | some ts => (match toInts b1 with | some cs => if (okI N && okRows L && okInts ts && okInts cs) = true then some (keptA N L ts cs, false) else none | none => none) | none => none) | none => none)
  | _ => none
theorem e_trLeft : EntOk Try.prog 20 g_trLeft := ent_pure (by kernel_rfl) fun args r fr h => by
  unfold g_trLeft at h
  split at h
  · rename_i N a0 a1 b1
    split at h
    · rename_i L t0
      split at h
      · rename_i ts t1
        split at h
        · rename_i cs s1
          split at h
          · rename_i hc
            simp only [Bool.and_eq_true] at hc
            obtain ⟨⟨⟨m0, o0⟩, o1⟩, p1⟩ := hc
            cases h
            exact ⟨FnPure.cov (left_p N L ts cs m0 o0 o1 p1) (.cons (cov_th _ (cov_rows t0)) (.cons (cov_cl t1 s1) .nil)), rfl⟩
          · cases h
        · cases h
      · cases h
    · cases h
  · cases h

def l25 : List (FuncId × (List AV → Option (AV × Bool))) :=
  (20, g_trLeft) :: l24
theorem l25_ok : ∀ p ∈ l25, EntOk Try.prog p.1 p.2 := ent_cons e_trLeft (l24_ok)
def PT25 : PTab := tab l25
theorem PT25_ok : PTok Try.prog PT25 := tab_ok l25_ok
@[simp] theorem PT25_litVar : PT25 32 = g_litVar := rfl
@[simp] theorem PT25_litValid : PT25 77 = g_litValid := rfl
@[simp] theorem PT25_contains : PT25 50 = g_contains := rfl
@[simp] theorem PT25_check : PT25 46 = g_check := rfl
@[simp] theorem PT25_with : PT25 33 = g_with := rfl
@[simp] theorem PT25_without : PT25 31 = g_without := rfl
@[simp] theorem PT25_all : PT25 30 = g_all := rfl
@[simp] theorem PT25_rValid : PT25 71 = g_rValid := rfl
@[simp] theorem PT25_rCheck : PT25 42 = g_rCheck := rfl
@[simp] theorem PT25_litvalid : PT25 85 = g_litvalid := rfl
@[simp] theorem PT25_opposite : PT25 87 = g_opposite := rfl
@[simp] theorem PT25_clone : PT25 99 = g_clone := rfl
@[simp] theorem PT25_order : PT25 86 = g_order := rfl
@[simp] theorem PT25_term : PT25 69 = g_term := rfl
@[simp] theorem PT25_clause : PT25 57 = g_clause := rfl
@[simp] theorem PT25_equal : PT25 61 = g_equal := rfl
@[simp] theorem PT25_distinct : PT25 60 = g_distinct := rfl
@[simp] theorem PT25_normal : PT25 27 = g_normal := rfl
@[simp] theorem PT25_rContains : PT25 74 = g_rContains := rfl
@[simp] theorem PT25_rSameInts : PT25 52 = g_rSameInts := rfl
@[simp] theorem PT25_rAbs : PT25 114 = g_rAbs := rfl
@[simp] theorem PT25_rBefore : PT25 97 = g_rBefore := rfl
@[simp] theorem PT25_rSorted : PT25 75 = g_rSorted := rfl
@[simp] theorem PT25_rPut : PT25 76 = g_rPut := rfl
@[simp] theorem PT25_rNormal : PT25 45 = g_rNormal := rfl
@[simp] theorem PT25_place : PT25 62 = g_place := rfl
@[simp] theorem PT25_vHas : PT25 34 = g_vHas := rfl
@[simp] theorem PT25_vMinus : PT25 90 = g_vMinus := rfl
@[simp] theorem PT25_vCut : PT25 29 = g_vCut := rfl
@[simp] theorem PT25_vSub : PT25 65 = g_vSub := rfl
@[simp] theorem PT25_litHolds : PT25 64 = g_litHolds := rfl
@[simp] theorem PT25_litAny : PT25 36 = g_litAny := rfl
@[simp] theorem PT25_thEval : PT25 37 = g_thEval := rfl
@[simp] theorem PT25_rSame : PT25 22 = g_rSame := rfl
@[simp] theorem PT25_rTerm : PT25 73 = g_rTerm := rfl
@[simp] theorem PT25_thVars : PT25 35 = g_thVars := rfl
@[simp] theorem PT25_light : PT25 13 = g_light := rfl
@[simp] theorem PT25_given : PT25 41 = g_given := rfl
@[simp] theorem PT25_trLight : PT25 14 = g_trLight := rfl
@[simp] theorem PT25_trGood : PT25 47 = g_trGood := rfl
@[simp] theorem PT25_trLeft : PT25 20 = g_trLeft := rfl
end Go.Proofs.Ythdjgcjpolpgdaa
