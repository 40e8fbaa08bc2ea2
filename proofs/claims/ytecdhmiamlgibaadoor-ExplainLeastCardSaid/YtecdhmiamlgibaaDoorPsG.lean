/- Variables of literals, one list within another, an assignment with literals; no condition. -/
import Derived.Test.YtecdhmiamlgibaaDoorNe39
import Derived.Test.YtecdhmiamlgibaaDoorWl
/- Ps39: Variables of literals, one list within another, an assignment with literals; no condition. -/
namespace Go.Proofs.YtecdhmiamlgibaaDoor
set_option linter.unusedVariables false
set_option linter.unusedSimpArgs false
set_option linter.unusedSectionVars false
open Go.RowKit
open Wlk
attribute [-simp] List.getD_eq_getElem?_getD
set_option maxRecDepth 100000
theorem max_neg (x : Int) : (if x < -x then -x else x) = absZ x := by unfold absZ; split <;> omega
def litsB (xs : List Int) : Bool := xs.all litX
theorem litsB_iff {xs : List Int} : litsB xs = true ↔ LitsX xs := by unfold litsB LitsX; rw [List.all_eq_true]
theorem getD_lit {xs : List Int} (h : LitsX xs) (k : Nat) : -128 ≤ xs.getD k 0 ∧ xs.getD k 0 ≤ 128 := by
 by_cases e : k < xs.length
 ·have : xs.getD k 0 = xs[k] := by rw [List.getD_eq_getElem?_getD, List.getElem?_eq_getElem e]; rfl
  rw [this]; exact litX_b (h _ (List.getElem_mem _))
 ·have : xs.getD k 0 = 0 := by rw [List.getD_eq_getElem?_getD, List.getElem?_eq_none (Nat.le_of_not_lt e)]; rfl
  rw [this]; omega
def absL (xs : List Int) : List Int := xs.map absZ
theorem absL_take {xs : List Int} {k : Nat} (hk : k < xs.length) : absL (xs.take (k + 1)) = absL (xs.take k) ++ [absZ (xs.getD k 0)] := by
 unfold absL
 rw [List.take_add_one, List.getElem?_eq_getElem hk, List.map_append]
 simp [List.getD, hk]
theorem absL_len (xs : List Int) : (absL xs).length = xs.length := by unfold absL; simp
theorem positive_p (xs : List Int) (h : okInts xs = true) (hx : LitsX xs) : FnPure Tryd.prog 24 [aInts xs] (aInts (absL xs)) := by
 have hl := okInts_len h
 have HX := Lib.hid hx
 clear hx
 refine fn_sp TT_ok Tryd.func24 (c := _) rfl (by simp [Tryd.ntmps24]) (fun B hI0 hro => ?_)
 rw [Tryd.ntmps24]
 simp only [enumA]
 refine amStr (h := ?_)
 refine amReg PT154_ok (h := ?_)
 refine amStr (h := ?_)
 refine amReg PT154_ok (h := ?_)
 refine amStr (h := ?_)
 refine s_nil 3 50 3 1 (by simp [lk]) (by simp) ?_
 simp [st]
 refine amReg PT154_ok (h := ?_)
 refine amStr (h := ?_)
 refine s_loop (J := fun i : {k : Nat // k ≤ xs.length} => ⟨21, [(3, .ref 50 0 (absL (xs.take i.1)).length), (6, aInts xs), (7, .v (.int .i64 (xs.length : Int))), (8, .v (.int .i64 (i.1 : Int)))], [(50, ⟨3, 1, (absL (xs.take i.1)).map fun x => [.v (.int .i64 x)]⟩)], [50]⟩) (μ := fun i => xs.length - i.1) ⟨0, Nat.zero_le _⟩ ?_ (fun ⟨k, hk⟩ => ?_)
 ·have h0 : absL [] = [] := rfl
  (refine weak_id rfl ?_ ?_ <;> ((try simp only [List.mem_cons, List.not_mem_nil, or_false, forall_eq_or_imp, forall_eq]); (try simp (disch := omega) [i64w, *])))
 refine amStr (h := ?_)
 refine amReg PT154_ok (h := ?_)
 refine amStr (h := ?_)
 (focus ((with_reducible refine sp_cond (b := ?_) ?_ (fun hc => ?_) (fun hc => ?_)); rotate_left; (focus (first | rfl | (simp [lk, AS.ev]; rfl))); all_goals (try simp at hc)))
 ·have hkk := hc
  clear hc
  have hs := absL_take hkk
  have hb := getD_lit HX.out k
  have hlen : (absL (xs.take k)).length + 1 ≤ xs.length := by rw [absL_len, List.length_take]; omega
  have hmm := max_neg (xs.getD k 0)
  have hwz : IntKind.i64.wrap (-xs.getD k 0) = -xs.getD k 0 := i64w (by omega) (by omega)
  obtain ⟨T, hT⟩ : ∃ T, absL (xs.take k) = T := ⟨_, rfl⟩
  rw [hT] at hs hlen
  rw [hT]
  clear hT
  have hcap : (T.length + 1) * 8 ≤ 140737488355328 := by omega
  refine amGo PT154_ok (h := ?_)
  refine k_lp (⟨k + 1, by omega⟩ : {k : Nat // k ≤ xs.length}) (by first | omega | (dsimp only; omega)) ?_
  (refine weak_of (fun q => if q = 50 then 57 else q) ⟨rfl, ?_, ?_, ?_⟩ <;> ((try simp only [List.mem_cons, List.not_mem_nil, or_false, forall_eq_or_imp, forall_eq]); (try simp (disch := omega) [lk, AV.ids, idsL, idsLL, AV.ren, renL, renLL, i64w, *])))
 ·obtain rfl : k = xs.length := by omega
  have e : xs.take xs.length = xs := List.take_length
  rw [e]
  refine amGo PT154_ok (h := ?_)
  (refine amRt Tryd.results24 (h := ?_); try simp [*])
def memB (ys : List Int) (x : Int) : Bool := ys.any fun y => decide (x = y)
theorem memB_iff {ys : List Int} {x : Int} : memB ys x = true ↔ x ∈ ys := by
 unfold memB
 rw [List.any_eq_true]
 constructor
 ·rintro ⟨y, h1, h2⟩; rw [of_decide_eq_true h2]; exact h1
 ·intro h; exact ⟨x, h, decide_eq_true rfl⟩
def inB (xs ys : List Int) : Bool := xs.all (memB ys)
theorem memB_take {ys : List Int} {k : Nat} (x : Int) (hk : k < ys.length) : memB (ys.take (k + 1)) x = (memB (ys.take k) x || decide (x = ys.getD k 0)) := by
 unfold memB
 rw [List.take_add_one, List.getElem?_eq_getElem hk, List.any_append]
 simp [List.getD, hk]
theorem inB_take {xs : List Int} {ys : List Int} {k : Nat} (hk : k < xs.length) : inB (xs.take (k + 1)) ys = (inB (xs.take k) ys && memB ys (xs.getD k 0)) := by
 unfold inB
 rw [List.take_add_one, List.getElem?_eq_getElem hk, List.all_append]
 simp [List.getD, hk]
theorem inB_stop {xs : List Int} {ys : List Int} {k : Nat} (hk : k < xs.length) (h : memB ys (xs.getD k 0) = false) : inB xs ys = false := by
 unfold inB
 rw [List.all_eq_false]
 exact ⟨xs.getD k 0, by rw [List.getD_eq_getElem?_getD, List.getElem?_eq_getElem hk, Option.getD_some]; exact List.getElem_mem _, by rw [h]; decide⟩
theorem within_p (xs ys : List Int) (h : okInts xs = true) (h2 : okInts ys = true) : FnPure Tryd.prog 28 [aInts xs, aInts ys] (.v (.bool (inB xs ys))) := by
 have hl := okInts_len h
 have hl2 := okInts_len h2
 refine fn_sp TT_ok Tryd.func28 (c := _) rfl (by simp [Tryd.ntmps28]) (fun B hI0 hro => ?_)
 rw [Tryd.ntmps28]
 simp only [enumA]
 refine amGo PT154_ok (h := ?_)
 refine s_loop (J := fun i : {k : Nat // k ≤ xs.length ∧ Hid (inB (xs.take k) ys = true)} => ⟨32, [(1, aInts ys), (10, aInts xs), (11, .v (.int .i64 (xs.length : Int))), (12, .v (.int .i64 (i.1 : Int)))], [], []⟩) (μ := fun i => xs.length - i.1) ⟨0, Nat.zero_le _, Lib.hid rfl⟩ ?_ (fun ⟨k, hk, HIN⟩ => ?_)
 ·(refine weak_id rfl ?_ ?_ <;> ((try simp only [List.mem_cons, List.not_mem_nil, or_false, forall_eq_or_imp, forall_eq]); (try simp (disch := omega) [i64w, *])))
 refine amStr (h := ?_)
 refine amReg PT154_ok (h := ?_)
 refine amStr (h := ?_)
 (focus ((with_reducible refine sp_cond (b := ?_) ?_ (fun hc => ?_) (fun hc => ?_)); rotate_left; (focus (first | rfl | (simp [lk, AS.ev]; rfl))); all_goals (try simp at hc)))
 ·have hkk := hc
  clear hc
  have ho := okI_iff.2 (okInts_at h k)
  obtain ⟨x, hx⟩ : ∃ x, xs.getD k 0 = x := ⟨_, rfl⟩
  refine amGo PT154_ok (h := ?_)
  refine s_loop (J := fun i : {j : Nat // j ≤ ys.length} => ⟨32, [(1, aInts ys), (10, aInts xs), (11, .v (.int .i64 (xs.length : Int))), (12, .v (.int .i64 (k : Int))), (6, .v (.int .i64 x)), (7, .v (.bool (memB (ys.take i.1) x))), (16, aInts ys), (17, .v (.int .i64 (ys.length : Int))), (18, .v (.int .i64 (i.1 : Int)))], [], []⟩) (μ := fun i => ys.length - i.1) ⟨0, Nat.zero_le _⟩ ?_ (fun ⟨j, hj⟩ => ?_)
  ·have h0 : memB [] x = false := rfl
   (refine weak_id rfl ?_ ?_ <;> ((try simp only [List.mem_cons, List.not_mem_nil, or_false, forall_eq_or_imp, forall_eq]); (try simp (disch := omega) [i64w, *])))
  refine amStr (h := ?_)
  refine amReg PT154_ok (h := ?_)
  refine amStr (h := ?_)
  (focus ((with_reducible refine sp_cond (b := ?_) ?_ (fun hc => ?_) (fun hc => ?_)); rotate_left; (focus (first | rfl | (simp [lk, AS.ev]; rfl))); all_goals (try simp at hc)))
  ·have hjj := hc
   clear hc
   have hs := memB_take x hjj
   cases hm : memB (ys.take j) x
   ·rw [hm, Bool.false_or] at hs
    have hbe : (x == ys.getD j 0) = decide (x = ys.getD j 0) := by rw [Bool.eq_iff_iff]; simp
    refine amGo PT154_ok (h := ?_)
    refine k_lp (⟨j + 1, by omega⟩ : {j : Nat // j ≤ ys.length}) (by first | omega | (dsimp only; omega)) ?_
    (refine weak_id rfl ?_ ?_ <;> ((try simp only [List.mem_cons, List.not_mem_nil, or_false, forall_eq_or_imp, forall_eq]); (try simp (disch := omega) [i64w, *])))
   ·rw [hm, Bool.true_or] at hs
    refine amGo PT154_ok (h := ?_)
    refine k_lp (⟨j + 1, by omega⟩ : {j : Nat // j ≤ ys.length}) (by first | omega | (dsimp only; omega)) ?_
    (refine weak_id rfl ?_ ?_ <;> ((try simp only [List.mem_cons, List.not_mem_nil, or_false, forall_eq_or_imp, forall_eq]); (try simp (disch := omega) [i64w, *])))
  ·obtain rfl : j = ys.length := by omega
   clear hc
   have e : ys.take ys.length = ys := List.take_length
   rw [e]
   cases hm : memB ys x
   ·have hst := inB_stop (ys := ys) hkk (by rw [hx]; exact hm)
    refine amGo PT154_ok (h := ?_)
    (refine amRt Tryd.results28 (h := ?_); try simp [*])
   ·have hs := inB_take (ys := ys) hkk
    rw [HIN.out, hx, hm] at hs
    refine amGo PT154_ok (h := ?_)
    refine k_lp (⟨k + 1, by omega, Lib.hid hs⟩ : {k : Nat // k ≤ xs.length ∧ Hid (inB (xs.take k) ys = true)}) (by first | omega | (dsimp only; omega)) ?_
    (refine weak_id rfl ?_ ?_ <;> ((try simp only [List.mem_cons, List.not_mem_nil, or_false, forall_eq_or_imp, forall_eq]); (try simp (disch := omega) [i64w, *])))
 ·obtain rfl : k = xs.length := by omega
  have e : xs.take xs.length = xs := List.take_length
  have hf := HIN.out
  rw [e] at hf
  refine amGo PT154_ok (h := ?_)
  (refine amRt Tryd.results28 (h := ?_); try simp [*])
def holdS (b : BitVec 128) (l : Int) : BitVec 128 := if 0 < l then sWith b l else sWithout b (-l)
def holdL (xs : List Int) (b : BitVec 128) : BitVec 128 := xs.foldl holdS b
theorem holdL_take {xs : List Int} {k : Nat} (b : BitVec 128) (hk : k < xs.length) : holdL (xs.take (k + 1)) b = holdS (holdL (xs.take k) b) (xs.getD k 0) := by
 unfold holdL
 rw [List.take_add_one, List.getElem?_eq_getElem hk, List.foldl_append]
 simp [List.getD, hk]
theorem holds_p (xs : List Int) (b : BitVec 128) (h : okInts xs = true) (hx : LitsX xs) : FnPure Tryd.prog 30 [aInts xs, aSet b] (aSet (holdL xs b)) := by
 have hl := okInts_len h
 have HX := Lib.hid hx
 clear hx
 obtain ⟨z1, z2⟩ := words0
 unfold aSet WV
 refine fn_sp TT_ok Tryd.func30 (c := _) rfl (by simp [Tryd.ntmps30]) (fun B hI0 hro => ?_)
 rw [Tryd.ntmps30]
 simp only [enumA]
 refine amGo PT154_ok (h := ?_)
 refine s_loop (J := fun i : {k : Nat // k ≤ xs.length} => ⟨24, [(3, .ptr 0 0 0), (4, .ptr 1 0 0), (7, aInts xs), (8, .v (.int .i64 (xs.length : Int))), (9, .v (.int .i64 (i.1 : Int)))], [(1, ⟨27, 2, [[.v (.int .u64 0), .v (.int .u64 0)]]⟩), (0, ⟨27, 2, [[.v (.int .u64 ((lo (holdL (xs.take i.1) b)).toNat : Int)), .v (.int .u64 ((hi (holdL (xs.take i.1) b)).toNat : Int))]]⟩)], [1, 0]⟩) (μ := fun i => xs.length - i.1) ⟨0, Nat.zero_le _⟩ ?_ (fun ⟨k, hk⟩ => ?_)
 ·have h0 : holdL [] b = b := rfl
  (refine weak_id rfl ?_ ?_ <;> ((try simp only [List.mem_cons, List.not_mem_nil, or_false, forall_eq_or_imp, forall_eq]); (try simp (disch := omega) [i64w, *])))
 refine amGo PT154_ok (h := ?_)
 (focus ((with_reducible refine sp_cond (b := ?_) ?_ (fun hc => ?_) (fun hc => ?_)); rotate_left; (focus (first | rfl | (simp [lk, AS.ev]; rfl))); all_goals (try simp at hc)))
 ·have hkk := hc
  clear hc
  have hb := getD_lit HX.out k
  have ho := okI_iff.2 (okInts_at h k)
  have hs := holdL_take b hkk
  obtain ⟨x, hx⟩ : ∃ x, xs.getD k 0 = x := ⟨_, rfl⟩
  rw [hx] at hs hb ho
  have hwz : IntKind.i64.wrap (-x) = -x := i64w (by omega) (by omega)
  have hon : okI (-x) = true := okI_iff.2 ⟨by omega, by omega⟩
  unfold holdS at hs
  by_cases hp : 0 < x
  ·rw [if_pos hp] at hs
   refine amGo PT154_ok (h := ?_)
   refine k_lp (⟨k + 1, by omega⟩ : {k : Nat // k ≤ xs.length}) (by first | omega | (dsimp only; omega)) ?_
   (refine weak_id rfl ?_ ?_ <;> ((try simp only [List.mem_cons, List.not_mem_nil, or_false, forall_eq_or_imp, forall_eq]); (try simp (disch := omega) [i64w, *])))
  ·rw [if_neg hp] at hs
   refine amGo PT154_ok (h := ?_)
   refine k_lp (⟨k + 1, by omega⟩ : {k : Nat // k ≤ xs.length}) (by first | omega | (dsimp only; omega)) ?_
   (refine weak_id rfl ?_ ?_ <;> ((try simp only [List.mem_cons, List.not_mem_nil, or_false, forall_eq_or_imp, forall_eq]); (try simp (disch := omega) [i64w, *])))
 ·obtain rfl : k = xs.length := by omega
  have e : xs.take xs.length = xs := List.take_length
  rw [e]
  refine amGo PT154_ok (h := ?_)
  (refine amRt Tryd.results30 (h := ?_); try simp [*])
@[simp] def g_tPositive : List AV → Option (AV × Bool)
 | [a0] => (match toInts a0 with | some xs => if (okInts xs && litsB xs) = true then some (aInts (absL xs), false) else none | none => none)
 | _ => none
theorem e_tPositive : EntOk Tryd.prog 24 g_tPositive := ent_pure (by kernel_rfl) fun args r fr h => by
 unfold g_tPositive at h
 split at h
 ·rename_i a0
  split at h
  ·rename_i xs t0
   split at h
   ·rename_i hc
    simp only [Bool.and_eq_true] at hc
    obtain ⟨o0, hk⟩ := hc
    cases h
    exact ⟨FnPure.cov (positive_p xs o0 (litsB_iff.1 hk)) (.cons (cov_ints t0) .nil), rfl⟩
   ·cases h
  ·cases h
 ·cases h

@[simp] def g_tWithin : List AV → Option (AV × Bool)
 | [a0, a1] => (match toInts a0 with | some xs => (match toInts a1 with | some ys => if (okInts xs && okInts ys) = true then some (.v (.bool (inB xs ys)), false) else none | none => none) | none => none)
 | _ => none
theorem e_tWithin : EntOk Tryd.prog 28 g_tWithin := ent_pure (by kernel_rfl) fun args r fr h => by
 unfold g_tWithin at h
 split at h
 ·rename_i a0 a1
  split at h
  ·rename_i xs t0
   split at h
   ·rename_i ys t1
    split at h
    ·rename_i hc
     simp only [Bool.and_eq_true] at hc
     obtain ⟨o0, o1⟩ := hc
     cases h
     exact ⟨FnPure.cov (within_p xs ys o0 o1) (.cons (cov_ints t0) (.cons (cov_ints t1) .nil)), rfl⟩
    ·cases h
   ·cases h
  ·cases h
 ·cases h

@[simp] def g_tHolds : List AV → Option (AV × Bool)
 | [a0, a1] => (match toInts a0 with | some xs => (match toSet a1 with | some b => if (okInts xs && litsB xs) = true then some (aSet (holdL xs b), false) else none | none => none) | none => none)
 | _ => none
theorem e_tHolds : EntOk Tryd.prog 30 g_tHolds := ent_pure (by kernel_rfl) fun args r fr h => by
 unfold g_tHolds at h
 split at h
 ·rename_i a0 a1
  split at h
  ·rename_i xs t0
   split at h
   ·rename_i b t1
    split at h
    ·rename_i hc
     simp only [Bool.and_eq_true] at hc
     obtain ⟨o0, hk⟩ := hc
     cases h
     exact ⟨FnPure.cov (holds_p xs b o0 (litsB_iff.1 hk)) (.cons (cov_ints t0) (.cons (toSet_inv t1 ▸ Cov.refl _) .nil)), rfl⟩
    ·cases h
   ·cases h
  ·cases h
 ·cases h

def l155 : List (FuncId × (List AV → Option (AV × Bool))) :=
 (24, g_tPositive) :: (28, g_tWithin) :: (30, g_tHolds) :: l154
theorem l155_ok : ∀ p ∈ l155, EntOk Tryd.prog p.1 p.2 := ent_cons e_tPositive (ent_cons e_tWithin (ent_cons e_tHolds (l154_ok)))
def PT155 : PTab := tab l155
theorem PT155_ok : PTok Tryd.prog PT155 := tab_ok l155_ok
@[simp] theorem PT155_tPositive : PT155 24 = g_tPositive := rfl
@[simp] theorem PT155_tWithin : PT155 28 = g_tWithin := rfl
@[simp] theorem PT155_tHolds : PT155 30 = g_tHolds := rfl
@[simp] theorem PT155_old (f : FuncId) (h : decide (f ≠ 24 ∧ f ≠ 28 ∧ f ≠ 30) = true) : PT155 f = PT154 f := (fun h => Eq.trans (tab_old h.1) (Eq.trans (tab_old h.2.1) (tab_old h.2.2))) (of_decide_eq_true h)
end Go.Proofs.YtecdhmiamlgibaaDoor
/- Pv39: What reasons, necessary literals and bias have to do with each other (plain); no condition. -/
namespace Go.Proofs.YtecdhmiamlgibaaDoor
set_option linter.unusedVariables false
set_option linter.unusedSimpArgs false
set_option linter.unusedSectionVars false
open Go.RowKit
set_option maxRecDepth 100000
theorem ofL_hasG (u : Int) : ∀ (xs : List Int) (s : BitVec 128), sHas (xs.foldl sWith s) u = (sHas s u || decide (u ∈ xs ∧ 1 ≤ u ∧ u ≤ 128))
 | [], s => by simp
 | x :: r, s => by
  rw [List.foldl_cons, ofL_hasG u r, sHas_with, Bool.or_assoc]
  congr 1
  rw [Bool.eq_iff_iff]
  simp only [Bool.or_eq_true, decide_eq_true_eq, List.mem_cons]
  constructor
  ·rintro (⟨rfl, h⟩ | ⟨h1, h2⟩)
   ·exact ⟨.inl rfl, h⟩
   ·exact ⟨.inr h1, h2⟩
  ·rintro ⟨rfl | h1, h2⟩
   ·exact .inl ⟨rfl, h2⟩
   ·exact .inr ⟨h1, h2⟩
theorem ofL_has (xs : List Int) (u : Int) : sHas (ofL xs) u = decide (u ∈ xs ∧ 1 ≤ u ∧ u ≤ 128) := by
 unfold ofL; rw [ofL_hasG, sHas_zero, Bool.false_or]
theorem idx_bit {vs : List Int} (h : okVs vs) (a : BitVec 128) {i : Nat} (hi : i < vs.length) : (idxN vs a).testBit i = sHas a (vs.getD i 0) := idxN_bit (posV_get h.1 hi)
theorem abs_mem {vs : List Int} (h : okVs vs) {x P : Nat} {u : Int} : u ∈ absL (termL vs x P) ↔ ∃ i, i < vs.length ∧ P.testBit i = true ∧ u = vs.getD i 0 := by
 unfold absL
 rw [List.mem_map]
 constructor
 ·rintro ⟨l, hl, rfl⟩
  obtain ⟨i, h1, h2, rfl⟩ := term_mem.1 hl
  exact ⟨i, h1, h2, sgn_abs h h1⟩
 ·rintro ⟨i, h1, h2, rfl⟩
  exact ⟨sgn vs x i, term_mem.2 ⟨i, h1, h2, rfl⟩, sgn_abs h h1⟩
theorem term_has {vs : List Int} (h : okVs vs) {x P : Nat} {u : Int} : sHas (ofL (absL (termL vs x P))) u = true ↔ ∃ i, i < vs.length ∧ P.testBit i = true ∧ u = vs.getD i 0 := by
 rw [ofL_has, decide_eq_true_eq, abs_mem h]
 constructor
 ·exact fun h => h.1
 ·rintro ⟨i, h1, h2, rfl⟩
  exact ⟨⟨i, h1, h2, rfl⟩, h.2 _ (gmemI h1)⟩
def freeB (p : BitVec 128) (r : List Int) : Bool := decide (ofL (absL r) &&& p = 0#128)
theorem free_term {vs : List Int} (h : okVs vs) {x P : Nat} (hP : P < 2 ^ vs.length) (p : BitVec 128) : freeB p (termL vs x P) = true ↔ ∀ i, P.testBit i = true → (idxN vs p).testBit i = false := by
 unfold freeB
 rw [decide_eq_true_eq]
 constructor
 ·intro he i hi
  have hin := bit_hi hP hi
  rw [idx_bit h p hin]
  cases hh : sHas p (vs.getD i 0) with
  | false => rfl
  | true =>
   have h2 : sHas (ofL (absL (termL vs x P)) &&& p) (vs.getD i 0) = true := by
    rw [sHas_and, hh, (term_has h).2 ⟨i, hin, hi, rfl⟩]; rfl
   rw [he, sHas_zero] at h2; cases h2
 ·intro hi
  refine sets_ext fun u _ _ => ?_
  rw [sHas_and, sHas_zero]
  cases h1 : sHas (ofL (absL (termL vs x P))) u with
  | false => rfl
  | true =>
   obtain ⟨i, h2, h3, rfl⟩ := (term_has h).1 h1
   have := hi i h3
   rw [idx_bit h p h2] at this
   rw [this]; rfl
def reaX (ns : List Nd) (a : BitVec 128) : List (List Int) := sortX (reaL (tabF ns) (matL ns) (idxN (matL ns) a) (2 ^ (matL ns).length))
theorem reaX_mem {ns : List Nd} {a : BitVec 128} {r : List Int} : r ∈ reaX ns a ↔ ∃ P, P < 2 ^ (matL ns).length ∧ leastB (tabF ns) (matL ns).length (idxN (matL ns) a) P = true ∧ r = termL (matL ns) (idxN (matL ns) a) P := by
 unfold reaX
 rw [(sortX_perm _).mem_iff, reaL_mem]
theorem reaX_rows {ns : List Nd} (a : BitVec 128) (h16 : (matL ns).length ≤ 16) : okRows (reaX ns a) = true := by
 obtain ⟨hvs, _⟩ := okV_vs (matL_ok h16)
 have h := reaL_rows hvs h16 (tabF ns) (idxN (matL ns) a) (2 ^ (matL ns).length) (Nat.pow_le_pow_right (n := 2) (by omega) h16)
 rw [okRows, Bool.and_eq_true, List.all_eq_true, decide_eq_true_eq] at h ⊢
 exact ⟨fun c hc => h.1 c ((sortX_perm _).mem_iff.1 hc), by rw [show (reaX ns a).length = _ from (sortX_perm _).length_eq]; exact h.2⟩
theorem reaX_lits {ns : List Nd} (a : BitVec 128) (h16 : (matL ns).length ≤ 16) : ∀ c ∈ reaX ns a, LitsX c := fun c hc => by
 obtain ⟨hvs, _⟩ := okV_vs (matL_ok h16)
 obtain ⟨P, _, _, rfl⟩ := reaX_mem.1 hc
 exact term_lits hvs _ P
theorem reaX_free {ns : List Nd} (a p : BitVec 128) (h16 : (matL ns).length ≤ 16) : (reaX ns a).any (freeB p) = !biasB ns a p := by
 obtain ⟨hvs, _⟩ := okV_vs (matL_ok h16)
 have h := free_iff (f := tabF ns) (at0 := idxN (matL ns) a) (idxN_lt (matL ns) p)
 have e : (reaX ns a).any (freeB p) = true ↔ biasB ns a p = false := by
  unfold biasB
  rw [List.any_eq_true, ← h]
  constructor
  ·rintro ⟨r, hr, hf⟩
   obtain ⟨P, h1, h2, rfl⟩ := reaX_mem.1 hr
   exact ⟨P, h1, h2, (free_term hvs h1 p).1 hf⟩
  ·rintro ⟨P, h1, h2, h3⟩
   exact ⟨_, reaX_mem.2 ⟨P, h1, h2, rfl⟩, (free_term hvs h1 p).2 h3⟩
 cases hb : biasB ns a p with
 | false => rw [e.2 hb]; rfl
 | true =>
  cases hx : (reaX ns a).any (freeB p) with
  | false => rfl
  | true => rw [e.1 hx] at hb; cases hb
theorem reaA_bad {N : Int} {ns : List Nd} {a : BitVec 128} (h : (validN N ns && subB a N) = false) : reaA N ns a = .tup [.v (.slice none 0 0), .v (.int .i64 1)] := by unfold reaA; rw [if_pos h]
theorem reaA_long {N : Int} {ns : List Nd} {a : BitVec 128} (h : (validN N ns && subB a N) = true) (h16 : 16 < (matL ns).length) : reaA N ns a = .tup [.v (.slice none 0 0), .v (.int .i64 2)] := by unfold reaA; rw [if_neg (by rw [h]; decide), if_pos h16]
theorem reaA_ok {N : Int} {ns : List Nd} {a : BitVec 128} (h : (validN N ns && subB a N) = true) (h16 : (matL ns).length ≤ 16) : reaA N ns a = .tup [aRows (reaX ns a), .v (.int .i64 0)] := by unfold reaA reaX; rw [if_neg (by rw [h]; decide), if_neg (by omega)]
theorem biasR_bad {N : Int} {ns : List Nd} {a : BitVec 128} (p : BitVec 128) (h : (validN N ns && subB a N) = false) : biasR N ns a p = .tup [.v (.bool false), .v (.int .i64 1)] := by unfold biasR; rw [if_pos h]
theorem biasR_long {N : Int} {ns : List Nd} {a : BitVec 128} (p : BitVec 128) (h : (validN N ns && subB a N) = true) (h16 : 16 < (matL ns).length) : biasR N ns a p = .tup [.v (.bool false), .v (.int .i64 2)] := by unfold biasR; rw [if_neg (by rw [h]; decide), if_pos h16]
theorem biasR_ok {N : Int} {ns : List Nd} {a : BitVec 128} (p : BitVec 128) (h : (validN N ns && subB a N) = true) (h16 : (matL ns).length ≤ 16) : biasR N ns a p = .tup [.v (.bool (biasB ns a p)), .v (.int .i64 0)] := by unfold biasR; rw [if_neg (by rw [h]; decide), if_neg (by omega)]
end Go.Proofs.YtecdhmiamlgibaaDoor
/- Sa39: The reference's Same, on literals and on reasons; no condition. -/
namespace Go.Proofs.YtecdhmiamlgibaaDoor
set_option linter.unusedVariables false
set_option linter.unusedSimpArgs false
set_option linter.unusedSectionVars false
open Go.RowKit
open Wlk
attribute [-simp] List.getD_eq_getElem?_getD
set_option maxRecDepth 100000
theorem ext_getD0 {xs ys : List Int} (hl : xs.length = ys.length) (h : ∀ j, j < xs.length → xs.getD j 0 = ys.getD j 0) : xs = ys := by
 apply List.ext_getElem hl
 intro i h1 h2
 have := h i h1
 rwa [List.getD_eq_getElem?_getD, List.getD_eq_getElem?_getD, List.getElem?_eq_getElem h1, List.getElem?_eq_getElem h2] at this
theorem r3Same_p (xs ys : List Int) (h : okInts xs = true) (h2 : okInts ys = true) : FnPure Tryd.prog 19 [aInts xs, aInts ys] (.v (.bool (decide (xs = ys)))) := by
 have hl := okInts_len h
 have hl2 := okInts_len h2
 by_cases hlen : xs.length = ys.length
 ·have hw : (decide (ys.length = ys.length)) = true := decide_eq_true rfl
  refine fn_sp TT_ok Tryd.func19 (c := _) rfl (by simp [Tryd.ntmps19]) (fun B hI0 hro => ?_)
  rw [Tryd.ntmps19]
  simp only [enumA]
  refine amGo PT155_ok (h := ?_)
  refine s_loop (J := fun i : {k : Nat // k ≤ xs.length ∧ Hid (∀ j, j < k → xs.getD j 0 = ys.getD j 0)} => ⟨26, [(0, aInts xs), (1, aInts ys), (5, .v (.int .i64 (i.1 : Int)))], [], []⟩) (μ := fun i => xs.length - i.1) ⟨0, Nat.zero_le _, Lib.hid fun j hj => by omega⟩ ?_ (fun ⟨k, hk, HIN⟩ => ?_)
  ·(refine weak_id rfl ?_ ?_ <;> ((try simp only [List.mem_cons, List.not_mem_nil, or_false, forall_eq_or_imp, forall_eq]); (try simp (disch := omega) [i64w, *])))
  refine amStr (h := ?_)
  refine amReg PT155_ok (h := ?_)
  refine amStr (h := ?_)
  (focus ((with_reducible refine sp_cond (b := ?_) ?_ (fun hc => ?_) (fun hc => ?_)); rotate_left; (focus (first | rfl | (simp [lk, AS.ev]; rfl))); all_goals (try simp at hc)))
  ·have hkk : k < xs.length := by omega
   clear hc
   have hky : k < ys.length := by omega
   by_cases he : xs.getD k 0 = ys.getD k 0
   ·have hpre : ∀ j, j < k + 1 → xs.getD j 0 = ys.getD j 0 := fun j hj => by
     by_cases e : j = k
     ·rw [e]; exact he
     ·exact HIN.out j (by omega)
    have HP := Lib.hid hpre
    clear hpre
    have hne : (xs.getD k 0 != ys.getD k 0) = false := by rw [he]; simp
    refine amGo PT155_ok (h := ?_)
    refine k_lp (⟨k + 1, by omega, HP⟩ : {k : Nat // k ≤ xs.length ∧ Hid (∀ j, j < k → xs.getD j 0 = ys.getD j 0)}) (by first | omega | (dsimp only; omega)) ?_
    (refine weak_id rfl ?_ ?_ <;> ((try simp only [List.mem_cons, List.not_mem_nil, or_false, forall_eq_or_imp, forall_eq]); (try simp (disch := omega) [i64w, *])))
   ·have hne : (xs.getD k 0 != ys.getD k 0) = true := by rw [bne_iff_ne]; exact he
    have hd : decide (xs = ys) = false := decide_eq_false fun e => he (by rw [e])
    clear he
    rw [hd]
    refine amGo PT155_ok (h := ?_)
    (refine amRt Tryd.results19 (h := ?_); try simp [*])
  ·have hkk : k = xs.length := by omega
   have hd : decide (xs = ys) = true := decide_eq_true (ext_getD0 hlen fun j hj => HIN.out j (by omega))
   rw [hd]
   refine amGo PT155_ok (h := ?_)
   (refine amRt Tryd.results19 (h := ?_); try simp [*])
 ·have hd : decide (xs = ys) = false := decide_eq_false fun e => hlen (by rw [e])
  rw [hd]
  have hne : ((xs.length : Int) != (ys.length : Int)) = true := by rw [bne_iff_ne]; omega
  refine fn_sp TT_ok Tryd.func19 (c := _) rfl (by simp [Tryd.ntmps19]) (fun B hI0 hro => ?_)
  rw [Tryd.ntmps19]
  simp only [enumA]
  refine amGo PT155_ok (h := ?_)
  (refine amRt Tryd.results19 (h := ?_); try simp [*])
@[simp] def g_r3Same : List AV → Option (AV × Bool)
 | [a0, a1] => (match toInts a0 with | some xs => (match toInts a1 with | some ys => if (okInts xs && okInts ys) = true then some (.v (.bool (decide (xs = ys))), false) else none | none => none) | none => none)
 | _ => none
theorem e_r3Same : EntOk Tryd.prog 19 g_r3Same := ent_pure (by kernel_rfl) fun args r fr h => by
 unfold g_r3Same at h
 split at h
 ·rename_i a0 a1
  split at h
  ·rename_i xs t0
   split at h
   ·rename_i ys t1
    split at h
    ·rename_i hc
     simp only [Bool.and_eq_true] at hc
     obtain ⟨o0, o1⟩ := hc
     cases h
     exact ⟨FnPure.cov (r3Same_p xs ys o0 o1) (.cons (cov_ints t0) (.cons (cov_ints t1) .nil)), rfl⟩
    ·cases h
   ·cases h
  ·cases h
 ·cases h

def l156 : List (FuncId × (List AV → Option (AV × Bool))) :=
 (19, g_r3Same) :: l155
theorem l156_ok : ∀ p ∈ l156, EntOk Tryd.prog p.1 p.2 := ent_cons e_r3Same (l155_ok)
def PT156 : PTab := tab l156
theorem PT156_ok : PTok Tryd.prog PT156 := tab_ok l156_ok
@[simp] theorem PT156_r3Same : PT156 19 = g_r3Same := rfl
@[simp] theorem PT156_old (f : FuncId) (h : decide (f ≠ 19) = true) : PT156 f = PT155 f := tab_old (of_decide_eq_true h)
end Go.Proofs.YtecdhmiamlgibaaDoor
