/- Variables of literals, one list within another, an assignment with literals; no condition. -/
import Derived.Test.YtecdhmiamlgibaaDoorNe39
import Derived.Test.YtecdhmiamlgibaaDoorWa
namespace Go.Proofs.YtecdhmiamlgibaaDoor
set_option linter.unusedVariables false
set_option linter.unusedSimpArgs false
set_option linter.unusedSectionVars false
open Go.RowKit
attribute [local simp] List.getD_cons_zero List.getD_cons_succ List.getD_nil undef gvars runL runE effA stepA dstOk wantA core lk st dl AS.ev AS.evs AS.put AS.upd updO updI nxt cPick cAlloc cBox cBuild cBuildS cLoad cStore cNil plainOf cBin cNilS isNilS nilA cUn cConvX cConvB cConv bytesOf rowB cMake cSlice slA idxA cFA cF cIA cIX cIS cI cExt cLen cApp cMM cFun cCall lenA lenM isNilM nilM cNilM cMakeM hintB cMapK cLook foundR lookR cUpd putM cDel delM findA isKeyB Instr.sameNow AS.entry AS.bound AS.callee sc1 sc2 ixOk ldA AV.flat AV.cell AV.cells Value.oneCell' fillA spl chunk zeros AS.parts AS.rows AS.shut AS.shut1 AS.shut2 AS.shutL AS.shutM AV.ids idsL idsLL eqAll bndA AV.scalar AV.scalar1 AV.isV Ef.app Ef.pk ptOf pntO wrO wr
attribute [-simp] List.getD_eq_getElem?_getD
set_option maxRecDepth 100000
theorem max_neg (x : Int) : (if x < -x then -x else x) = absZ x := by unfold absZ; split <;> omega
def litsB (xs : List Int) : Bool := xs.all litX
theorem litsB_iff {xs : List Int} : litsB xs = true ↔ LitsX xs := by unfold litsB LitsX; rw [List.all_eq_true]
theorem getD_lit {xs : List Int} (h : LitsX xs) (k : Nat) : -128 ≤ xs.getD k 0 ∧ xs.getD k 0 ≤ 128 := by
  by_cases e : k < xs.length
  · have : xs.getD k 0 = xs[k] := by rw [List.getD_eq_getElem?_getD, List.getElem?_eq_getElem e]; rfl
    rw [this]; exact litX_b (h _ (List.getElem_mem _))
  · have : xs.getD k 0 = 0 := by rw [List.getD_eq_getElem?_getD, List.getElem?_eq_none (Nat.le_of_not_lt e)]; rfl
    rw [this]; omega
def absL (xs : List Int) : List Int := xs.map absZ
theorem absL_take {xs : List Int} {k : Nat} (hk : k < xs.length) : absL (xs.take (k + 1)) = absL (xs.take k) ++ [absZ (xs.getD k 0)] := by
  unfold absL
  rw [List.take_add_one, List.getElem?_eq_getElem hk, List.map_append]
  simp [List.getD, hk]
theorem absL_len (xs : List Int) : (absL xs).length = xs.length := by unfold absL; simp
theorem positive_p (xs : List Int) (h : okInts xs = true) (hx : LitsX xs) : FnPure Tryd.prog 24 [aInts xs] (aInts (absL xs)) := by
  have hl := okInts_len h
  have HX := Lib.hid hx
  clear hx
  refine fn_sp TT_ok Tryd.func24 (c := _) rfl (by simp [Tryd.ntmps24]) (fun B hI0 hro => ?_)
  rw [Tryd.ntmps24]
  simp only [enumA]
  refine amStr (h := ?_)
  refine amReg PT154_ok (h := ?_)
  refine amStr (h := ?_)
  refine amReg PT154_ok (h := ?_)
  refine amStr (h := ?_)
  refine s_nil 3 50 3 1 (by simp [lk]) (by simp) ?_
  simp [st]
  refine amReg PT154_ok (h := ?_)
  refine amStr (h := ?_)
  refine s_loop (J := fun i : {k : Nat // k ≤ xs.length} => ⟨21, [(3, .ref 50 0 (absL (xs.take i.1)).length), (6, aInts xs), (7, .v (.int .i64 (xs.length : Int))), (8, .v (.int .i64 (i.1 : Int)))], [(50, ⟨3, 1, (absL (xs.take i.1)).map fun x => [.v (.int .i64 x)]⟩)], [50]⟩) (μ := fun i => xs.length - i.1) ⟨0, Nat.zero_le _⟩ ?_ (fun ⟨k, hk⟩ => ?_)
  · have h0 : absL [] = [] := rfl
    (refine weak_id rfl ?_ ?_ <;> ((try simp only [List.mem_cons, List.not_mem_nil, or_false, forall_eq_or_imp, forall_eq]); (try simp (disch := omega) [i64w, *])))
  refine amStr (h := ?_)
  refine amReg PT154_ok (h := ?_)
  refine amStr (h := ?_)
  (focus ((with_reducible refine sp_cond (b := ?_) ?_ (fun hc => ?_) (fun hc => ?_)); rotate_left; (focus (first | rfl | (simp [lk, AS.ev]; rfl))); all_goals (try simp at hc)))
  · have hkk := hc
    clear hc
    have hs := absL_take hkk
    have hb := getD_lit HX.out k
    have hlen : (absL (xs.take k)).length + 1 ≤ xs.length := by rw [absL_len, List.length_take]; omega
    have hmm := max_neg (xs.getD k 0)
    have hwz : IntKind.i64.wrap (-xs.getD k 0) = -xs.getD k 0 := i64w (by omega) (by omega)
    obtain ⟨T, hT⟩ : ∃ T, absL (xs.take k) = T := ⟨_, rfl⟩
    rw [hT] at hs hlen
    rw [hT]
    clear hT
    have hcap : (T.length + 1) * 8 ≤ 140737488355328 := by omega
    refine amGo PT154_ok (h := ?_)
    refine k_lp (⟨k + 1, by omega⟩ : {k : Nat // k ≤ xs.length}) (by first | omega | (dsimp only; omega)) ?_
    (refine weak_of (fun q => if q = 50 then 57 else q) ⟨rfl, ?_, ?_, ?_⟩ <;> ((try simp only [List.mem_cons, List.not_mem_nil, or_false, forall_eq_or_imp, forall_eq]); (try simp (disch := omega) [lk, AV.ids, idsL, idsLL, AV.ren, renL, renLL, i64w, *])))
  · obtain rfl : k = xs.length := by omega
    have e : xs.take xs.length = xs := List.take_length
    rw [e]
    refine amGo PT154_ok (h := ?_)
    ((refine post_ret (av := ?_) (by first | exact .inl rfl | exact .inr rfl) (show (Tryd.f24).results.toList = _ from by rw [Tryd.results24]) ?_ ?_); rotate_left; (focus (simp [retA, retL, ret1, lk, st, ldA, AV.cell]; rfl)); (try simp [*]))
def memB (ys : List Int) (x : Int) : Bool := ys.any fun y => decide (x = y)
theorem memB_iff {ys : List Int} {x : Int} : memB ys x = true ↔ x ∈ ys := by
  unfold memB
  rw [List.any_eq_true]
  constructor
  · rintro ⟨y, h1, h2⟩; rw [of_decide_eq_true h2]; exact h1
  · intro h; exact ⟨x, h, decide_eq_true rfl⟩
def inB (xs ys : List Int) : Bool := xs.all (memB ys)
theorem memB_take {ys : List Int} {k : Nat} (x : Int) (hk : k < ys.length) : memB (ys.take (k + 1)) x = (memB (ys.take k) x || decide (x = ys.getD k 0)) := by
  unfold memB
  rw [List.take_add_one, List.getElem?_eq_getElem hk, List.any_append]
  simp [List.getD, hk]
theorem inB_take {xs : List Int} {ys : List Int} {k : Nat} (hk : k < xs.length) : inB (xs.take (k + 1)) ys = (inB (xs.take k) ys && memB ys (xs.getD k 0)) := by
  unfold inB
  rw [List.take_add_one, List.getElem?_eq_getElem hk, List.all_append]
  simp [List.getD, hk]
theorem inB_stop {xs : List Int} {ys : List Int} {k : Nat} (hk : k < xs.length) (h : memB ys (xs.getD k 0) = false) : inB xs ys = false := by
  unfold inB
  rw [List.all_eq_false]
  exact ⟨xs.getD k 0, by rw [List.getD_eq_getElem?_getD, List.getElem?_eq_getElem hk, Option.getD_some]; exact List.getElem_mem _, by rw [h]; decide⟩
theorem within_p (xs ys : List Int) (h : okInts xs = true) (h2 : okInts ys = true) : FnPure Tryd.prog 28 [aInts xs, aInts ys] (.v (.bool (inB xs ys))) := by
  have hl := okInts_len h
  have hl2 := okInts_len h2
  refine fn_sp TT_ok Tryd.func28 (c := _) rfl (by simp [Tryd.ntmps28]) (fun B hI0 hro => ?_)
  rw [Tryd.ntmps28]
  simp only [enumA]
  refine amGo PT154_ok (h := ?_)
  refine s_loop (J := fun i : {k : Nat // k ≤ xs.length ∧ Hid (inB (xs.take k) ys = true)} => ⟨32, [(1, aInts ys), (10, aInts xs), (11, .v (.int .i64 (xs.length : Int))), (12, .v (.int .i64 (i.1 : Int)))], [], []⟩) (μ := fun i => xs.length - i.1) ⟨0, Nat.zero_le _, Lib.hid rfl⟩ ?_ (fun ⟨k, hk, HIN⟩ => ?_)
  · (refine weak_id rfl ?_ ?_ <;> ((try simp only [List.mem_cons, List.not_mem_nil, or_false, forall_eq_or_imp, forall_eq]); (try simp (disch := omega) [i64w, *])))
  refine amStr (h := ?_)
  refine amReg PT154_ok (h := ?_)
  refine amStr (h := ?_)
  (focus ((with_reducible refine sp_cond (b := ?_) ?_ (fun hc => ?_) (fun hc => ?_)); rotate_left; (focus (first | rfl | (simp [lk, AS.ev]; rfl))); all_goals (try simp at hc)))
  · have hkk := hc
    clear hc
    have ho := okI_iff.2 (okInts_at h k)
    obtain ⟨x, hx⟩ : ∃ x, xs.getD k 0 = x := ⟨_, rfl⟩
    refine amGo PT154_ok (h := ?_)
    refine s_loop (J := fun i : {j : Nat // j ≤ ys.length} => ⟨32, [(1, aInts ys), (10, aInts xs), (11, .v (.int .i64 (xs.length : Int))), (12, .v (.int .i64 (k : Int))), (6, .v (.int .i64 x)), (7, .v (.bool (memB (ys.take i.1) x))), (16, aInts ys), (17, .v (.int .i64 (ys.length : Int))), (18, .v (.int .i64 (i.1 : Int)))], [], []⟩) (μ := fun i => ys.length - i.1) ⟨0, Nat.zero_le _⟩ ?_ (fun ⟨j, hj⟩ => ?_)
    · have h0 : memB [] x = false := rfl
      (refine weak_id rfl ?_ ?_ <;> ((try simp only [List.mem_cons, List.not_mem_nil, or_false, forall_eq_or_imp, forall_eq]); (try simp (disch := omega) [i64w, *])))
    refine amStr (h := ?_)
    refine amReg PT154_ok (h := ?_)
    refine amStr (h := ?_)
    (focus ((with_reducible refine sp_cond (b := ?_) ?_ (fun hc => ?_) (fun hc => ?_)); rotate_left; (focus (first | rfl | (simp [lk, AS.ev]; rfl))); all_goals (try simp at hc)))
    · have hjj := hc
      clear hc
      have hs := memB_take x hjj
      cases hm : memB (ys.take j) x
      · rw [hm, Bool.false_or] at hs
        have hbe : (x == ys.getD j 0) = decide (x = ys.getD j 0) := by rw [Bool.eq_iff_iff]; simp
        refine amGo PT154_ok (h := ?_)
        refine k_lp (⟨j + 1, by omega⟩ : {j : Nat // j ≤ ys.length}) (by first | omega | (dsimp only; omega)) ?_
        (refine weak_id rfl ?_ ?_ <;> ((try simp only [List.mem_cons, List.not_mem_nil, or_false, forall_eq_or_imp, forall_eq]); (try simp (disch := omega) [i64w, *])))
      · rw [hm, Bool.true_or] at hs
        refine amGo PT154_ok (h := ?_)
        refine k_lp (⟨j + 1, by omega⟩ : {j : Nat // j ≤ ys.length}) (by first | omega | (dsimp only; omega)) ?_
        (refine weak_id rfl ?_ ?_ <;> ((try simp only [List.mem_cons, List.not_mem_nil, or_false, forall_eq_or_imp, forall_eq]); (try simp (disch := omega) [i64w, *])))
    · obtain rfl : j = ys.length := by omega
      clear hc
      have e : ys.take ys.length = ys := List.take_length
      rw [e]
      cases hm : memB ys x
      · have hst := inB_stop (ys := ys) hkk (by rw [hx]; exact hm)
        refine amGo PT154_ok (h := ?_)
        ((refine post_ret (av := ?_) (by first | exact .inl rfl | exact .inr rfl) (show (Tryd.f28).results.toList = _ from by rw [Tryd.results28]) ?_ ?_); rotate_left; (focus (simp [retA, retL, ret1, lk, st, ldA, AV.cell]; rfl)); (try simp [*]))
      · have hs := inB_take (ys := ys) hkk
        rw [HIN.out, hx, hm] at hs
        refine amGo PT154_ok (h := ?_)
        refine k_lp (⟨k + 1, by omega, Lib.hid hs⟩ : {k : Nat // k ≤ xs.length ∧ Hid (inB (xs.take k) ys = true)}) (by first | omega | (dsimp only; omega)) ?_
        (refine weak_id rfl ?_ ?_ <;> ((try simp only [List.mem_cons, List.not_mem_nil, or_false, forall_eq_or_imp, forall_eq]); (try simp (disch := omega) [i64w, *])))
  · obtain rfl : k = xs.length := by omega
    have e : xs.take xs.length = xs := List.take_length
    have hf := HIN.out
    rw [e] at hf
    refine amGo PT154_ok (h := ?_)
    ((refine post_ret (av := ?_) (by first | exact .inl rfl | exact .inr rfl) (show (Tryd.f28).results.toList = _ from by rw [Tryd.results28]) ?_ ?_); rotate_left; (focus (simp [retA, retL, ret1, lk, st, ldA, AV.cell]; rfl)); (try simp [*]))
def holdS (b : BitVec 128) (l : Int) : BitVec 128 := if 0 < l then sWith b l else sWithout b (-l)
def holdL (xs : List Int) (b : BitVec 128) : BitVec 128 := xs.foldl holdS b
theorem holdL_take {xs : List Int} {k : Nat} (b : BitVec 128) (hk : k < xs.length) : holdL (xs.take (k + 1)) b = holdS (holdL (xs.take k) b) (xs.getD k 0) := by
  unfold holdL
  rw [List.take_add_one, List.getElem?_eq_getElem hk, List.foldl_append]
  simp [List.getD, hk]
theorem holds_p (xs : List Int) (b : BitVec 128) (h : okInts xs = true) (hx : LitsX xs) : FnPure Tryd.prog 30 [aInts xs, aSet b] (aSet (holdL xs b)) := by
  have hl := okInts_len h
  have HX := Lib.hid hx
  clear hx
  obtain ⟨z1, z2⟩ := words0
  unfold aSet WV
  refine fn_sp TT_ok Tryd.func30 (c := _) rfl (by simp [Tryd.ntmps30]) (fun B hI0 hro => ?_)
  rw [Tryd.ntmps30]
  simp only [enumA]
  refine amGo PT154_ok (h := ?_)
  refine s_loop (J := fun i : {k : Nat // k ≤ xs.length} => ⟨24, [(3, .ptr 0 0 0), (4, .ptr 1 0 0), (7, aInts xs), (8, .v (.int .i64 (xs.length : Int))), (9, .v (.int .i64 (i.1 : Int)))], [(1, ⟨27, 2, [[.v (.int .u64 0), .v (.int .u64 0)]]⟩), (0, ⟨27, 2, [[.v (.int .u64 ((lo (holdL (xs.take i.1) b)).toNat : Int)), .v (.int .u64 ((hi (holdL (xs.take i.1) b)).toNat : Int))]]⟩)], [1, 0]⟩) (μ := fun i => xs.length - i.1) ⟨0, Nat.zero_le _⟩ ?_ (fun ⟨k, hk⟩ => ?_)
  · have h0 : holdL [] b = b := rfl
    (refine weak_id rfl ?_ ?_ <;> ((try simp only [List.mem_cons, List.not_mem_nil, or_false, forall_eq_or_imp, forall_eq]); (try simp (disch := omega) [i64w, *])))
  refine amGo PT154_ok (h := ?_)
  (focus ((with_reducible refine sp_cond (b := ?_) ?_ (fun hc => ?_) (fun hc => ?_)); rotate_left; (focus (first | rfl | (simp [lk, AS.ev]; rfl))); all_goals (try simp at hc)))
  · have hkk := hc
    clear hc
    have hb := getD_lit HX.out k
    have ho := okI_iff.2 (okInts_at h k)
    have hs := holdL_take b hkk
    obtain ⟨x, hx⟩ : ∃ x, xs.getD k 0 = x := ⟨_, rfl⟩
    rw [hx] at hs hb ho
    have hwz : IntKind.i64.wrap (-x) = -x := i64w (by omega) (by omega)
    have hon : okI (-x) = true := okI_iff.2 ⟨by omega, by omega⟩
    unfold holdS at hs
    by_cases hp : 0 < x
    · rw [if_pos hp] at hs
      refine amGo PT154_ok (h := ?_)
      refine k_lp (⟨k + 1, by omega⟩ : {k : Nat // k ≤ xs.length}) (by first | omega | (dsimp only; omega)) ?_
      (refine weak_id rfl ?_ ?_ <;> ((try simp only [List.mem_cons, List.not_mem_nil, or_false, forall_eq_or_imp, forall_eq]); (try simp (disch := omega) [i64w, *])))
    · rw [if_neg hp] at hs
      refine amGo PT154_ok (h := ?_)
      refine k_lp (⟨k + 1, by omega⟩ : {k : Nat // k ≤ xs.length}) (by first | omega | (dsimp only; omega)) ?_
      (refine weak_id rfl ?_ ?_ <;> ((try simp only [List.mem_cons, List.not_mem_nil, or_false, forall_eq_or_imp, forall_eq]); (try simp (disch := omega) [i64w, *])))
  · obtain rfl : k = xs.length := by omega
    have e : xs.take xs.length = xs := List.take_length
    rw [e]
    refine amGo PT154_ok (h := ?_)
    ((refine post_ret (av := ?_) (by first | exact .inl rfl | exact .inr rfl) (show (Tryd.f30).results.toList = _ from by rw [Tryd.results30]) ?_ ?_); rotate_left; (focus (simp [retA, retL, ret1, lk, st, ldA, AV.cell]; rfl)); (try simp [*]))
@[simp] def g_tPositive : List AV → Option (AV × Bool)
  | [a0] => (match toInts a0 with | some xs => if (okInts xs && litsB xs) = true then some (aInts (absL xs), false) else none | none => none)
  | _ => none
theorem e_tPositive : EntOk Tryd.prog 24 g_tPositive := ent_pure (by kernel_rfl) fun args r fr h => by
  unfold g_tPositive at h
  split at h
  · rename_i a0
    split at h
    · rename_i xs t0
      split at h
      · rename_i hc
        simp only [Bool.and_eq_true] at hc
        obtain ⟨o0, hk⟩ := hc
        cases h
        exact ⟨FnPure.cov (positive_p xs o0 (litsB_iff.1 hk)) (.cons (cov_ints t0) .nil), rfl⟩
      · cases h
    · cases h
  · cases h

@[simp] def g_tWithin : List AV → Option (AV × Bool)
  | [a0, a1] => (match toInts a0 with | some xs => (match toInts a1 with | some ys => if (okInts xs && okInts ys) = true then some (.v (.bool (inB xs ys)), false) else none | none => none) | none => none)
  | _ => none
theorem e_tWithin : EntOk Tryd.prog 28 g_tWithin := ent_pure (by kernel_rfl) fun args r fr h => by
  unfold g_tWithin at h
  split at h
  · rename_i a0 a1
    split at h
    · rename_i xs t0
      split at h
      · rename_i ys t1
        split at h
        · rename_i hc
          simp only [Bool.and_eq_true] at hc
          obtain ⟨o0, o1⟩ := hc
          cases h
          exact ⟨FnPure.cov (within_p xs ys o0 o1) (.cons (cov_ints t0) (.cons (cov_ints t1) .nil)), rfl⟩
        · cases h
      · cases h
    · cases h
  · cases h

@[simp] def g_tHolds : List AV → Option (AV × Bool)
  | [a0, a1] => (match toInts a0 with | some xs => (match toSet a1 with | some b => if (okInts xs && litsB xs) = true then some (aSet (holdL xs b), false) else none | none => none) | none => none)
  | _ => none
theorem e_tHolds : EntOk Tryd.prog 30 g_tHolds := ent_pure (by kernel_rfl) fun args r fr h => by
  unfold g_tHolds at h
  split at h
  · rename_i a0 a1
    split at h
    · rename_i xs t0
      split at h
      · rename_i b t1
        split at h
        · rename_i hc
          simp only [Bool.and_eq_true] at hc
          obtain ⟨o0, hk⟩ := hc
          cases h
          exact ⟨FnPure.cov (holds_p xs b o0 (litsB_iff.1 hk)) (.cons (cov_ints t0) (.cons (toSet_inv t1 ▸ Cov.refl _) .nil)), rfl⟩
        · cases h
      · cases h
    · cases h
  · cases h

def l155 : List (FuncId × (List AV → Option (AV × Bool))) :=
  (24, g_tPositive) :: (28, g_tWithin) :: (30, g_tHolds) :: l154
theorem l155_ok : ∀ p ∈ l155, EntOk Tryd.prog p.1 p.2 := ent_cons e_tPositive (ent_cons e_tWithin (ent_cons e_tHolds (l154_ok)))
def PT155 : PTab := tab l155
theorem PT155_ok : PTok Tryd.prog PT155 := tab_ok l155_ok
@[simp] theorem PT155_litVar : PT155 85 = g_litVar := rfl
@[simp] theorem PT155_litValid : PT155 110 = g_litValid := rfl
@[simp] theorem PT155_with : PT155 26 = g_with := rfl
@[simp] theorem PT155_without : PT155 25 = g_without := rfl
@[simp] theorem PT155_all : PT155 29 = g_all := rfl
@[simp] theorem PT155_place : PT155 54 = g_place := rfl
@[simp] theorem PT155_vHas : PT155 36 = g_vHas := rfl
@[simp] theorem PT155_vMinus : PT155 31 = g_vMinus := rfl
@[simp] theorem PT155_vCut : PT155 22 = g_vCut := rfl
@[simp] theorem PT155_vUnion : PT155 21 = g_vUnion := rfl
@[simp] theorem PT155_vSub : PT155 72 = g_vSub := rfl
@[simp] theorem PT155_litHolds : PT155 56 = g_litHolds := rfl
@[simp] theorem PT155_nFormed : PT155 84 = g_nFormed := rfl
@[simp] theorem PT155_nCheck : PT155 55 = g_nCheck := rfl
@[simp] theorem PT155_r4Var : PT155 97 = g_r4Var := rfl
@[simp] theorem PT155_r4Valid : PT155 96 = g_r4Valid := rfl
@[simp] theorem PT155_rFormed : PT155 69 = g_rFormed := rfl
@[simp] theorem PT155_rValid20 : PT155 40 = g_rValid20 := rfl
@[simp] theorem PT155_r3Has : PT155 83 = g_r3Has := rfl
@[simp] theorem PT155_r3List : PT155 70 = g_r3List := rfl
@[simp] theorem PT155_r3Len : PT155 41 = g_r3Len := rfl
@[simp] theorem PT155_light39 : PT155 39 = g_light39 := rfl
@[simp] theorem PT155_r20Vars : PT155 71 = g_r20Vars := rfl
@[simp] theorem PT155_r39Mat : PT155 42 = g_r39Mat := rfl
@[simp] theorem PT155_few39 : PT155 12 = g_few39 := rfl
@[simp] theorem PT155_vOf : PT155 23 = g_vOf := rfl
@[simp] theorem PT155_nVars : PT155 91 = g_nVars := rfl
@[simp] theorem PT155_tIndex : PT155 53 = g_tIndex := rfl
@[simp] theorem PT155_tTerm : PT155 45 = g_tTerm := rfl
@[simp] theorem PT155_tChg : PT155 44 = g_tChg := rfl
@[simp] theorem PT155_vList : PT155 92 = g_vList := rfl
@[simp] theorem PT155_tTabled : PT155 62 = g_tTabled := rfl
@[simp] theorem PT155_tOpen : PT155 43 = g_tOpen := rfl
@[simp] theorem PT155_tBiased : PT155 20 = g_tBiased := rfl
@[simp] theorem PT155_works39 : PT155 13 = g_works39 := rfl
@[simp] theorem PT155_tReasons : PT155 14 = g_tReasons := rfl
@[simp] theorem PT155_tNecess : PT155 16 = g_tNecess := rfl
@[simp] theorem PT155_nEval : PT155 27 = g_nEval := rfl
@[simp] theorem PT155_tPositive : PT155 24 = g_tPositive := rfl
@[simp] theorem PT155_tWithin : PT155 28 = g_tWithin := rfl
@[simp] theorem PT155_tHolds : PT155 30 = g_tHolds := rfl
end Go.Proofs.YtecdhmiamlgibaaDoor
