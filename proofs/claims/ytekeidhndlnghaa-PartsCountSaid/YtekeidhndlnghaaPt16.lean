/- Contracts of parts.rest and parts.checked, by the abstract machine; no condition. -/
import Derived.Test.YtekeidhndlnghaaWa
import Derived.Test.YtekeidhndlnghaaCvG
import Derived.Test.YtekeidhndlnghaaOld
namespace Go.Proofs.Ytekeidhndlnghaa
set_option linter.unusedVariables false
set_option linter.unusedSimpArgs false
set_option linter.unusedSectionVars false
open Go.RowKit
attribute [local simp] List.getD_cons_zero List.getD_cons_succ List.getD_nil undef gvars runL runE effA stepA dstOk wantA core lk st dl AS.ev AS.evs AS.put AS.upd updO updI nxt cPick cAlloc cBox cBuild cBuildS cLoad cStore cNil plainOf cBin cNilS isNilS nilA cUn cConvX cConvB cConv bytesOf rowB cMake cSlice slA idxA cFA cF cIA cIX cIS cI cExt cLen cApp cMM cFun cCall lenA lenM isNilM nilM cNilM cMakeM hintB cMapK cLook foundR lookR cUpd putM cDel delM findA isKeyB Instr.sameNow AS.entry AS.bound AS.callee sc1 sc2 ixOk ldA AV.flat AV.cell AV.cells Value.oneCell' fillA spl chunk zeros AS.parts AS.rows AS.shut AS.shut1 AS.shut2 AS.shutL AS.shutM AV.ids idsL idsLL eqAll bndA AV.scalar AV.scalar1 AV.isV Ef.app Ef.pk ptOf pntO wrO wr
attribute [-simp] List.getD_eq_getElem?_getD
set_option maxRecDepth 100000
theorem getD_memI {xs : List Int} {k : Nat} (hk : k < xs.length) : xs.getD k 0 ∈ xs := by
  have : xs.getD k 0 = xs[k] := by simp [List.getD, hk]
  rw [this]; exact List.getElem_mem _
theorem getD_memL {L : List (List Int)} {k : Nat} (hk : k < L.length) : L.getD k [] ∈ L := by
  have : L.getD k [] = L[k] := by simp [List.getD, hk]
  rw [this]; exact List.getElem_mem _
def aTh (N : Int) (L : List (List Int)) : AV := .agg [.v (.int .i64 N), aRows L]
def restA (c ts : List Int) : AV := if leftL c ts = true then .tup [aInts (restL c ts), .v (.bool true)] else .tup [.v (.slice none 0 0), .v (.bool false)]
theorem restL_take {c ts : List Int} {k : Nat} (hk : k < c.length) : restL (c.take (k + 1)) ts = if -(c.getD k 0) ∈ ts then restL (c.take k) ts else restL (c.take k) ts ++ [c.getD k 0] := by
  have : c.getD k 0 = c[k] := by simp [List.getD, hk]
  rw [List.take_succ_eq_append_getElem hk, restL_snoc, this]
theorem rest_p (c ts : List Int) (hc : okInts c = true) (ht : okInts ts = true) (hl : okL c = true) : FnPure Try.prog 32 [aInts c, aInts ts] (restA c ts) := by
  have hcl := okInts_len hc
  refine fn_sp TT_ok Try.func32 (c := _) rfl (by simp [Try.ntmps32]) (fun B hI0 hro => ?_)
  rw [Try.ntmps32]
  simp only [enumA]
  refine amGo PT1_ok (h := ?_)
  refine s_nil 6 40 3 1 (by simp [lk]) (by simp) ?_
  simp only [st]
  refine s_loop (J := fun i : {k : Nat // k ≤ c.length ∧ ∀ j, j < k → c.getD j 0 ∉ ts} => ⟨29, [(1, aInts ts), (6, .ref 40 0 (restL (c.take i.1) ts).length), (9, aInts c), (10, .v (.int .i64 (c.length : Int))), (11, .v (.int .i64 (i.1 : Int)))], [(40, ⟨3, 1, (restL (c.take i.1) ts).map fun x => [.v (.int .i64 x)]⟩)], [40]⟩) (μ := fun i => c.length - i.1) ⟨0, Nat.zero_le _, fun j hj => by omega⟩ ?_ (fun ⟨k, hk, hno⟩ => ?_)
  · have h0 : restL [] ts = [] := rfl
    (refine weak_id rfl ?_ ?_ <;> ((try simp only [List.mem_cons, List.not_mem_nil, or_false, forall_eq_or_imp, forall_eq]); (try simp (disch := omega) [i64w, *])))
    all_goals rfl
  have hrl := restL_len (c.take k) ts
  rw [List.length_take] at hrl
  refine amGo PT1_ok (h := ?_)
  (focus ((with_reducible refine sp_cond (b := ?_) ?_ (fun hc => ?_) (fun hc => ?_)); rotate_left; (focus (first | rfl | (simp [lk, AS.ev]; rfl))); all_goals (try simp at hc)))
  · have hkk := hc
    clear hc
    have hcap : ((restL (c.take k) ts).length + 1) * 8 ≤ 140737488355328 := by omega
    have hts := restL_take (ts := ts) hkk
    have hr := okL_iff.1 hl _ (getD_memI hkk)
    have hmem := getD_memI hkk
    obtain ⟨x, hx⟩ : ∃ x, c.getD k 0 = x := ⟨_, rfl⟩
    rw [hx] at hts hr hmem
    have hok : okI x = true := okI_iff.2 ⟨by omega, by omega⟩
    have hokn : okI (-x) = true := okI_iff.2 ⟨by omega, by omega⟩
    have hw : IntKind.i64.wrap (-x) = -x := i64w (by omega) (by omega)
    by_cases hxt : x ∈ ts
    · have hlf : restA c ts = .tup [.v (.slice none 0 0), .v (.bool false)] := by
        unfold restA
        rw [if_neg]
        intro h
        have := List.all_eq_true.1 h x hmem
        simp [hxt] at this
      rw [hlf]
      refine amGo PT1_ok (h := ?_)
      ((refine post_ret (av := ?_) (by first | exact .inl rfl | exact .inr rfl) (show (Try.f32).results.toList = _ from by rw [Try.results32]) ?_ ?_); rotate_left; (focus (simp [retA, retL, ret1, lk, st, ldA, AV.cell]; rfl)); (try simp [*]))
    · by_cases hnt : -x ∈ ts
      · rw [if_pos hnt] at hts
        refine amGo PT1_ok (h := ?_)
        refine k_lp (⟨k + 1, by omega, fun j hj => ?_⟩ : {k : Nat // k ≤ c.length ∧ ∀ j, j < k → c.getD j 0 ∉ ts}) (by dsimp only; omega) ?_
        · by_cases e : j < k
          · exact hno j e
          · obtain rfl : j = k := by omega
            rw [hx]; exact hxt
        · (refine weak_id rfl ?_ ?_ <;> ((try simp only [List.mem_cons, List.not_mem_nil, or_false, forall_eq_or_imp, forall_eq]); (try simp (disch := omega) [i64w, *])))
      · rw [if_neg hnt] at hts
        refine amGo PT1_ok (h := ?_)
        refine k_lp (⟨k + 1, by omega, fun j hj => ?_⟩ : {k : Nat // k ≤ c.length ∧ ∀ j, j < k → c.getD j 0 ∉ ts}) (by dsimp only; omega) ?_
        · by_cases e : j < k
          · exact hno j e
          · obtain rfl : j = k := by omega
            rw [hx]; exact hxt
        · (refine weak_of (fun q => if q = 40 then 44 else q) ⟨rfl, ?_, ?_, ?_⟩ <;> ((try simp only [List.mem_cons, List.not_mem_nil, or_false, forall_eq_or_imp, forall_eq]); (try simp (disch := omega) [lk, AV.ids, idsL, idsLL, AV.ren, renL, renLL, i64w, *])))
  · obtain rfl : c.length = k := by omega
    clear hc
    rw [List.take_length]
    have hlf : restA c ts = .tup [aInts (restL c ts), .v (.bool true)] := by
      unfold restA
      rw [if_pos]
      refine List.all_eq_true.2 fun y hy => ?_
      obtain ⟨j, hj, rfl⟩ := List.getElem_of_mem hy
      have := hno j hj
      have e : c.getD j 0 = c[j] := by simp [List.getD, hj]
      rw [e] at this
      simpa using this
    rw [hlf]
    refine amGo PT1_ok (h := ?_)
    ((refine post_ret (av := ?_) (by first | exact .inl rfl | exact .inr rfl) (show (Try.f32).results.toList = _ from by rw [Try.results32]) ?_ ?_); rotate_left; (focus (simp [retA, retL, ret1, lk, st, ldA, AV.cell]; rfl)); (try simp [*]))
def chkL (N : Int) (L : List (List Int)) (ts : List Int) : Option (List Int) := if checkT N L = 0 then termL ts N else none
def chkA (N : Int) (L : List (List Int)) (ts : List Int) : AV := match chkL N L ts with
  | some xs => .tup [aInts xs, .v (.int .i64 0)]
  | none => .tup [.v (.slice none 0 0), .v (.int .i64 1)]
theorem checked_p (N : Int) (L : List (List Int)) (ts : List Int) (hN : okI N = true) (hL : okRows L = true) (ht : okInts ts = true) : FnPure Try.prog 27 [aTh N L, aInts ts] (chkA N L ts) := by
  unfold aTh chkA chkL
  by_cases hz : checkT N L = 0
  · rw [if_pos hz]
    cases hr : termL ts N with
    | none =>
      refine fn_sp TT_ok Try.func27 (c := _) rfl (by simp [Try.ntmps27]) (fun B hI0 hro => ?_)
      rw [Try.ntmps27]
      simp only [enumA]
      refine amGo PT1_ok (h := ?_)
      ((refine post_ret (av := ?_) (by first | exact .inl rfl | exact .inr rfl) (show (Try.f27).results.toList = _ from by rw [Try.results27]) ?_ ?_); rotate_left; (focus (simp [retA, retL, ret1, lk, st, ldA, AV.cell]; rfl)); (try simp [*]))
    | some xs =>
      refine fn_sp TT_ok Try.func27 (c := _) rfl (by simp [Try.ntmps27]) (fun B hI0 hro => ?_)
      rw [Try.ntmps27]
      simp only [enumA]
      refine amGo PT1_ok (h := ?_)
      ((refine post_ret (av := ?_) (by first | exact .inl rfl | exact .inr rfl) (show (Try.f27).results.toList = _ from by rw [Try.results27]) ?_ ?_); rotate_left; (focus (simp [retA, retL, ret1, lk, st, ldA, AV.cell]; rfl)); (try simp [*]))
  · rw [if_neg hz]
    have hne : (checkT N L != 0) = true := by simpa using hz
    refine fn_sp TT_ok Try.func27 (c := _) rfl (by simp [Try.ntmps27]) (fun B hI0 hro => ?_)
    rw [Try.ntmps27]
    simp only [enumA]
    refine amGo PT1_ok (h := ?_)
    ((refine post_ret (av := ?_) (by first | exact .inl rfl | exact .inr rfl) (show (Try.f27).results.toList = _ from by rw [Try.results27]) ?_ ?_); rotate_left; (focus (simp [retA, retL, ret1, lk, st, ldA, AV.cell]; rfl)); (try simp [*]))
@[simp] def g_pRest : List AV → Option (AV × Bool)
  | [a0, a1] => (match toInts a0 with | some c => (match toInts a1 with | some ts => if (okInts c && okInts ts && okL c) = true then some (restA c ts, false) else none | none => none) | none => none)
  | _ => none
theorem e_pRest : EntOk Try.prog 32 g_pRest := ent_pure (by kernel_rfl) fun args r fr h => by
  unfold g_pRest at h
  split at h
  · rename_i a0 a1
    split at h
    · rename_i c t0
      split at h
      · rename_i ts t1
        split at h
        · rename_i hc
          simp only [Bool.and_eq_true] at hc
          obtain ⟨⟨o0, o1⟩, hk⟩ := hc
          cases h
          exact ⟨FnPure.cov (rest_p c ts o0 o1 hk) (.cons (cov_ints t0) (.cons (cov_ints t1) .nil)), rfl⟩
        · cases h
      · cases h
    · cases h
  · cases h

@[simp] def g_pChk : List AV → Option (AV × Bool)
  | [.agg [.v (.int .i64 N), a0], a1] => (match toRows a0 with | some L => (match toInts a1 with | some ts => if (okI N && okRows L && okInts ts) = true then some (chkA N L ts, false) else none | none => none) | none => none)
  | _ => none
theorem e_pChk : EntOk Try.prog 27 g_pChk := ent_pure (by kernel_rfl) fun args r fr h => by
  unfold g_pChk at h
  split at h
  · rename_i N a0 a1
    split at h
    · rename_i L t0
      split at h
      · rename_i ts t1
        split at h
        · rename_i hc
          simp only [Bool.and_eq_true] at hc
          obtain ⟨⟨m0, o0⟩, o1⟩ := hc
          cases h
          exact ⟨FnPure.cov (checked_p N L ts m0 o0 o1) (.cons (cov_th _ (cov_rows t0)) (.cons (cov_ints t1) .nil)), rfl⟩
        · cases h
      · cases h
    · cases h
  · cases h

def l86 : List (FuncId × (List AV → Option (AV × Bool))) :=
  (32, g_pRest) :: (27, g_pChk) :: l1
theorem l86_ok : ∀ p ∈ l86, EntOk Try.prog p.1 p.2 := ent_cons e_pRest (ent_cons e_pChk (l1_ok))
def PT86 : PTab := tab l86
theorem PT86_ok : PTok Try.prog PT86 := tab_ok l86_ok
@[simp] theorem PT86_litVar : PT86 31 = g_litVar := rfl
@[simp] theorem PT86_litValid : PT86 57 = g_litValid := rfl
@[simp] theorem PT86_contains : PT86 50 = g_contains := rfl
@[simp] theorem PT86_check : PT86 47 = g_check := rfl
@[simp] theorem PT86_with : PT86 33 = g_with := rfl
@[simp] theorem PT86_without : PT86 30 = g_without := rfl
@[simp] theorem PT86_all : PT86 29 = g_all := rfl
@[simp] theorem PT86_rValid : PT86 55 = g_rValid := rfl
@[simp] theorem PT86_rHas : PT86 56 = g_rHas := rfl
@[simp] theorem PT86_rHolds : PT86 45 = g_rHolds := rfl
@[simp] theorem PT86_rAssign : PT86 44 = g_rAssign := rfl
@[simp] theorem PT86_rCheck : PT86 43 = g_rCheck := rfl
@[simp] theorem PT86_rEval : PT86 23 = g_rEval := rfl
@[simp] theorem PT86_litvalid : PT86 58 = g_litvalid := rfl
@[simp] theorem PT86_opposite : PT86 60 = g_opposite := rfl
@[simp] theorem PT86_clone : PT86 65 = g_clone := rfl
@[simp] theorem PT86_order : PT86 59 = g_order := rfl
@[simp] theorem PT86_term : PT86 48 = g_term := rfl
@[simp] theorem PT86_pRest : PT86 32 = g_pRest := rfl
@[simp] theorem PT86_pChk : PT86 27 = g_pChk := rfl
end Go.Proofs.Ytekeidhndlnghaa
