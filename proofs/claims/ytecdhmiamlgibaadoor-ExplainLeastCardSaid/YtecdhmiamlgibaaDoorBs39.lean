/- explain.Bias; no condition. -/
import Derived.Test.YtecdhmiamlgibaaDoorBqG
import Derived.Test.YtecdhmiamlgibaaDoorWl
namespace Go.Proofs.YtecdhmiamlgibaaDoor
set_option linter.unusedVariables false
set_option linter.unusedSimpArgs false
set_option linter.unusedSectionVars false
open Go.RowKit
open Wlk
attribute [-simp] List.getD_eq_getElem?_getD
set_option maxRecDepth 100000
attribute [local simp] aBools
theorem d_ids_prs (l : List (Bool × Bool)) : idsLL (l.map fun b => [AV.v (.bool b.1), AV.v (.bool b.2)]) = [] := by
 induction l with
 | nil => rfl
 | cons p r ih => simp [idsLL, idsL, AV.ids, ih]
theorem d_ids_prep (L : Nat) : idsLL (List.replicate L [AV.v (.bool false), AV.v (.bool false)]) = [] := by
 have h := d_ids_prs (List.replicate L (false, false))
 rwa [List.map_replicate] at h
theorem d_ren_prs (ρ : Nat → Nat) (l : List (Bool × Bool)) : renLL ρ (l.map fun b => [AV.v (.bool b.1), AV.v (.bool b.2)]) = l.map fun b => [AV.v (.bool b.1), AV.v (.bool b.2)] := renLL_pure ρ _ (d_ids_prs l)
theorem prs_get {l : List (Bool × Bool)} {k : Nat} (h : k < l.length) : (l.map fun b => [AV.v (.bool b.1), AV.v (.bool b.2)]).getD k [] = [.v (.bool (l.getD k (false, false)).1), .v (.bool (l.getD k (false, false)).2)] := by
 simp [List.getD, h]
attribute [local simp ↓ high] d_ids_prs d_ids_prep d_ren_prs
theorem ints_getO {l : List Int} {k : Nat} (h : k < l.length) : (l.map fun x => [AV.v (.int .i64 x)]).getD k [] = [.v (.int .i64 (l.getD k 0))] := by
 simp [List.getD, h]
theorem d_ids_setO (l : List Int) (k : Nat) (v : Int) : idsLL ((l.map fun x => [AV.v (.int .i64 x)]).set k [AV.v (.int .i64 v)]) = [] := by
 have h : idsLL ((l.set k v).map fun x => [AV.v (.int .i64 x)]) = [] := ids_ints _
 rwa [List.map_set] at h
attribute [local simp] prs_get ints_getO d_ids_setO
theorem rev_shr {n k c : Nat} (hc : c + n = 64) : (revI (k : Int)).fdiv (2 ^ c) = (revN n k : Int) := by
 have h0 : 0 ≤ revI (k : Int) := by unfold revI; omega
 rw [Int.fdiv_eq_ediv_of_nonneg _ (by exact Int.le_of_lt (Int.pow_pos (by decide)))]
 unfold revN
 rw [show 64 - n = c by omega, Int.natCast_ediv, Int.toNat_of_nonneg h0]
 simp
theorem fst_some {f : Nat → Bool} {n m k : Nat} (hk : k < 2 ^ n) (h : chgB f n (revN n k) m = true) (hp : ∀ i, i < k → chgB f n (revN n i) m = false) : fstI f n m = some k := by
 unfold fstI
 rw [List.find?_range_eq_some]
 exact ⟨h, List.mem_range.2 hk, fun j hj => by rw [hp j hj]; rfl⟩
theorem fst_none {f : Nat → Bool} {n m : Nat} (hp : ∀ i, i < 2 ^ n → chgB f n (revN n i) m = false) : fstI f n m = none := by
 unfold fstI
 rw [List.find?_eq_none]
 intro i hi
 rw [hp i (List.mem_range.1 hi)]; decide
theorem posL_take {T : List Int} {j : Nat} (hj : j < T.length) : posL (T.take (j + 1)) = if T.getD j 0 < 0 then posL (T.take j) else posL (T.take j) ++ [T.getD j 0] := by
 unfold posL
 rw [List.take_add_one, List.getElem?_eq_getElem hj, List.filter_append]
 have e : T.getD j 0 = T[j] := by rw [List.getD_eq_getElem?_getD, List.getElem?_eq_getElem hj]; rfl
 rw [e]
 split
 ·rename_i h; simp [h]
 ·rename_i h; simp [h]
theorem okInts_pos {T : List Int} (h : okInts T = true) : okInts (posL T) = true := by
 unfold okInts at h ⊢
 rw [Bool.and_eq_true, decide_eq_true_eq, List.all_eq_true] at h ⊢
 have hl : (posL T).length ≤ T.length := List.length_filter_le _ _
 exact ⟨fun x hx => h.1 x (List.mem_filter.1 hx).1, by omega⟩
theorem posL_len (T : List Int) : (posL T).length ≤ T.length := List.length_filter_le _ _
def DelI (T : List Int) (j : Nat) (D : List Int) : Prop := D.length = T.length ∧ D.take (posL (T.take j)).length = posL (T.take j) ∧ ∀ i, j ≤ i → D.getD i 0 = T.getD i 0
theorem del_start {T : List Int} {j : Nat} (hj : j < T.length) (h : posL (T.take j) = T.take j) (hv : T.getD j 0 < 0) : DelI T (j + 1) T ∧ (posL (T.take (j + 1))).length = j := by
 have e := posL_take hj
 rw [if_pos hv, h] at e
 have hl : (T.take j).length = j := by rw [List.length_take]; omega
 refine ⟨⟨rfl, ?_, fun _ _ => rfl⟩, by rw [e, hl]⟩
 rw [e, hl]
theorem del_skip {T D : List Int} {j : Nat} (hj : j < T.length) (h : DelI T j D) (hv : T.getD j 0 < 0) : DelI T (j + 1) D ∧ (posL (T.take (j + 1))).length = (posL (T.take j)).length := by
 have e := posL_take hj
 rw [if_pos hv] at e
 exact ⟨⟨h.1, by rw [e]; exact h.2.1, fun i hi => h.2.2 i (by omega)⟩, by rw [e]⟩
theorem del_keep {T D : List Int} {j : Nat} (hj : j < T.length) (h : DelI T j D) (hv : ¬ T.getD j 0 < 0) (hlt : (posL (T.take j)).length < j) : DelI T (j + 1) (D.set (posL (T.take j)).length (T.getD j 0)) ∧ (posL (T.take (j + 1))).length = (posL (T.take j)).length + 1 := by
 have e := posL_take hj
 rw [if_neg hv] at e
 have hlD : (posL (T.take j)).length < D.length := by rw [h.1]; omega
 refine ⟨⟨by rw [List.length_set]; exact h.1, ?_, fun i hi => ?_⟩, by rw [e, List.length_append]; rfl⟩
 ·rw [e, List.length_append, List.length_singleton, List.take_add_one, List.take_set_of_le (Nat.le_refl _), h.2.1]
  simp [hlD]
 ·rw [getD_set_ne (by omega)]; exact h.2.2 i (by omega)
set_option maxHeartbeats 16000000 in
theorem bs_ok (N : Int) (ns : List Nd) (p : BitVec 128) (hN : okI N = true) (h : okNs ns = true) (hv : validN N ns = true) (h16 : (matL ns).length ≤ 16) : FnPure Tryd.prog 33 [aNet N ns, aSet p] (match fstI (tabF ns) (matL ns).length (idxN (matL ns) p) with
  | some i => .tup [aSet (setX (matL ns) (revN (matL ns).length i)), .v (.bool true), .v (.int .i64 0)]
  | none => .tup [aSet 0#128, .v (.bool false), .v (.int .i64 0)]) := by
 have ht : tbdR N ns = .tup [.pt [.v (.int .i64 N), aInts (matL ns), aBools (onL (matL ns) ns)], .v (.int .i64 0)] := by unfold tbdR; rw [hv, if_neg (by decide), if_neg (by omega)]; rfl
 have hok := matL_ok h16
 have hon := onL_len (matL ns) ns
 have hi := idxN_lt (matL ns) p
 have hfe : ∀ i, tabF ns i = (onL (matL ns) ns).getD i false := fun _ => rfl
 generalize tabF ns = f at hfe ⊢
 generalize matL ns = vs at ht hok hon hi h16 hfe ⊢
 generalize onL vs ns = on at ht hon hi hfe ⊢
 obtain ⟨m, hm⟩ : ∃ m, idxN vs p = m := ⟨_, rfl⟩
 rw [hm] at hi ⊢
 have HF := Lib.hid hfe
 clear hfe
 obtain ⟨hvo, _⟩ := okV_vs hok
 have HV := Lib.hid hvo
 clear hvo
 have hp2 : 2 ^ vs.length ≤ 65536 := Nat.pow_le_pow_right (n := 2) (by omega) h16
 have hp1 := Nat.two_pow_pos vs.length
 obtain ⟨L, hL⟩ : ∃ L, 2 ^ vs.length = L := ⟨_, rfl⟩
 rw [hL] at hi hon hp2 hp1
 have HL := Lib.hid hL
 clear hL
 have hom : okI (m : Int) = true := okI_iff.2 ⟨by omega, by omega⟩
 have c1 : (L : Int) ≤ 281474976710656 := by omega
 have c2 : (L : Int) ≤ 9223372036854775807 := by omega
 have c3 : 2 * (L : Int) ≤ 281474976710656 := by omega
 obtain ⟨z1, z2⟩ := words0
 unfold aNet aNds aSet WV
 refine fn_sp TT_ok Tryd.func33 (c := _) rfl (by simp [Tryd.ntmps33]) (fun B hI0 hro => ?_)
 rw [Tryd.ntmps33]
 simp only [enumA]
 refine amStr (h := ?_)
 refine amReg PT159_ok (h := ?_)
 refine amStr (h := ?_)
 refine amReg PT159_ok (h := ?_)
 refine amStr (h := ?_)
 refine amReg PT159_ok (h := ?_)
 refine amStr (h := ?_)
 refine amReg PT159_ok (h := ?_)
 refine amStr (h := ?_)
 refine amReg PT159_ok (h := ?_)
 refine amStr (h := ?_)
 refine amReg PT159_ok (h := ?_)
 refine amStr (h := ?_)
 refine s_loop (J := fun i : {q : Nat × List (Bool × Bool) // q.1 ≤ L ∧ q.2.length = L ∧ Hid (∀ y, y < L → q.2.getD y (false, false) = (seenB f m false q.1 y, seenB f m true q.1 y))} => ⟨102, [(4, .ptr 2 0 0), (7, .pt [.v (.int .i64 N), aInts vs, .sl 1 (on.map fun b => [AV.v (.bool b)])]), (9, .v (.int .i64 (m : Int))), (10, .ref 8 0 L), (37, .sl 1 (on.map fun b => [AV.v (.bool b)])), (38, .v (.int .i64 (L : Int))), (39, .v (.int .i64 (i.1.1 : Int)))], [(2, ⟨27, 2, [[.v (.int .u64 0), .v (.int .u64 0)]]⟩), (8, ⟨86, 2, i.1.2.map fun b => [AV.v (.bool b.1), AV.v (.bool b.2)]⟩)], [8, 2]⟩) (μ := fun i => L - i.1.1) ⟨(0, List.replicate L (false, false)), Nat.zero_le _, List.length_replicate .., Lib.hid fun y hy => by simp [List.getD, hy, seenB]⟩ ?_ (fun ⟨⟨k, LL⟩, hk, hLL, hq⟩ => ?_)
 ·(refine weak_id rfl ?_ ?_ <;> ((try simp only [List.mem_cons, List.not_mem_nil, or_false, forall_eq_or_imp, forall_eq]); (try simp (disch := omega) [i64w, *])))
 dsimp only at hk hLL hq
 dsimp only
 refine amStr (h := ?_)
 refine amReg PT159_ok (h := ?_)
 refine amStr (h := ?_)
 (focus ((with_reducible refine sp_cond (b := ?_) ?_ (fun hc => ?_) (fun hc => ?_)); rotate_left; (focus (first | rfl | (simp [lk, AS.ev]; rfl))); all_goals (try simp at hc)))
 ·have hkk := hc
  clear hc
  have hkL : k < 2 ^ vs.length := by rw [HL.out]; exact hkk
  have hcl := clrN_lt (m := m) hkL
  rw [HL.out] at hcl
  have hci := clrN_i64 (x := k) (m := m) (by omega) (by omega)
  have hfk := HF.out k
  have hs1 := fun r y => seenB_succ f m r k y
  have HS := Lib.hid hs1
  clear hs1 hkL
  obtain ⟨C, hC⟩ : ∃ C, clrN k m = C := ⟨_, rfl⟩
  rw [hC] at hcl hci HS
  have hwC : IntKind.i64.wrap (C : Int) = (C : Int) := i64w (by omega) (by omega)
  have hCi : (C : Int) < (L : Int) := by omega
  have hCL : C < LL.length := by omega
  have hwk : IntKind.i64.wrap ((k : Int) + 1) = (k : Int) + 1 := i64w (by omega) (by omega)
  have hqC := hq.out C hcl
  have hko : k < on.length := by omega
  cases hb : on.getD k false
  ·rw [hb] at hfk
   have hnew : ∀ y, y < L → (LL.set C (true, (LL.getD C (false, false)).2)).getD y (false, false) = (seenB f m false (k + 1) y, seenB f m true (k + 1) y) := fun y hy => by
    rw [HS.out, HS.out, hfk]
    by_cases e : C = y
    ·subst e
     rw [getD_set_eq hCL, hqC, decide_eq_true rfl]
     simp
    ·rw [getD_set_ne e, hq.out y hy, decide_eq_false e]
     simp
   have HN := Lib.hid hnew
   clear hnew hqC hfk
   refine amStr (h := ?_)
   refine amReg PT159_ok (h := ?_)
   refine amStr (h := ?_)
   refine amReg PT159_ok (h := ?_)
   refine amStr (h := ?_)
   refine amReg PT159_ok (h := ?_)
   refine amStr (h := ?_)
   refine amReg PT159_ok (h := ?_)
   refine k_lp (⟨(k + 1, LL.set C (true, (LL.getD C (false, false)).2)), by omega, by simp [hLL], HN⟩ : {q : Nat × List (Bool × Bool) // q.1 ≤ L ∧ q.2.length = L ∧ Hid (∀ y, y < L → q.2.getD y (false, false) = (seenB f m false q.1 y, seenB f m true q.1 y))}) (by first | omega | (dsimp only; omega)) ?_
   (refine weak_id rfl ?_ ?_ <;> ((try simp only [List.mem_cons, List.not_mem_nil, or_false, forall_eq_or_imp, forall_eq]); (try simp (disch := omega) [i64w, *])))
  ·rw [hb] at hfk
   have hnew : ∀ y, y < L → (LL.set C ((LL.getD C (false, false)).1, true)).getD y (false, false) = (seenB f m false (k + 1) y, seenB f m true (k + 1) y) := fun y hy => by
    rw [HS.out, HS.out, hfk]
    by_cases e : C = y
    ·subst e
     rw [getD_set_eq hCL, hqC, decide_eq_true rfl]
     simp
    ·rw [getD_set_ne e, hq.out y hy, decide_eq_false e]
     simp
   have HN := Lib.hid hnew
   clear hnew hqC hfk
   refine amStr (h := ?_)
   refine amReg PT159_ok (h := ?_)
   refine amStr (h := ?_)
   refine amReg PT159_ok (h := ?_)
   refine amStr (h := ?_)
   refine amReg PT159_ok (h := ?_)
   refine amStr (h := ?_)
   refine amReg PT159_ok (h := ?_)
   refine k_lp (⟨(k + 1, LL.set C ((LL.getD C (false, false)).1, true)), by omega, by simp [hLL], HN⟩ : {q : Nat × List (Bool × Bool) // q.1 ≤ L ∧ q.2.length = L ∧ Hid (∀ y, y < L → q.2.getD y (false, false) = (seenB f m false q.1 y, seenB f m true q.1 y))}) (by first | omega | (dsimp only; omega)) ?_
   (refine weak_id rfl ?_ ?_ <;> ((try simp only [List.mem_cons, List.not_mem_nil, or_false, forall_eq_or_imp, forall_eq]); (try simp (disch := omega) [i64w, *])))
 obtain rfl : L = k := by omega
 clear hc
 have HB : Hid (∀ y, y < L → LL.getD y (false, false) = (seenB f m false L y, seenB f m true L y)) := hq
 refine amStr (h := ?_)
 refine amReg PT159_ok (h := ?_)
 refine amStr (h := ?_)
 refine s_loop (J := fun i : {k : Nat // k ≤ L ∧ Hid (∀ i, i < k → chgB f vs.length (revN vs.length i) m = false)} => ⟨102, [(4, .ptr 2 0 0), (7, .pt [.v (.int .i64 N), aInts vs, .sl 1 (on.map fun b => [AV.v (.bool b)])]), (9, .v (.int .i64 (m : Int))), (10, .ref 8 0 L), (61, .sl 1 (on.map fun b => [AV.v (.bool b)])), (62, .v (.int .i64 (L : Int))), (63, .v (.int .i64 (i.1 : Int)))], [(2, ⟨27, 2, [[.v (.int .u64 0), .v (.int .u64 0)]]⟩), (8, ⟨86, 2, LL.map fun b => [AV.v (.bool b.1), AV.v (.bool b.2)]⟩)], [8, 2]⟩) (μ := fun i => L - i.1) ⟨0, Nat.zero_le _, Lib.hid fun i hi => by omega⟩ ?_ (fun ⟨k, hk, HP⟩ => ?_)
 ·(refine weak_id rfl ?_ ?_ <;> ((try simp only [List.mem_cons, List.not_mem_nil, or_false, forall_eq_or_imp, forall_eq]); (try simp (disch := omega) [i64w, *])))
 refine amStr (h := ?_)
 refine amReg PT159_ok (h := ?_)
 refine amStr (h := ?_)
 (focus ((with_reducible refine sp_cond (b := ?_) ?_ (fun hc => ?_) (fun hc => ?_)); rotate_left; (focus (first | rfl | (simp [lk, AS.ev]; rfl))); all_goals (try simp at hc)))
 ·have hkk := hc
  clear hc
  have hkL : k < 2 ^ vs.length := by rw [HL.out]; exact hkk
  have hrl := revN_lt (by omega : vs.length ≤ 64) hkL
  rw [HL.out] at hrl
  have hwk : IntKind.i64.wrap ((k : Int) + 1) = (k : Int) + 1 := i64w (by omega) (by omega)
  refine amStr (h := ?_)
  refine amReg PT159_ok (h := ?_)
  refine amStr (h := ?_)
  refine amReg PT159_ok (h := ?_)
  refine amStr (h := ?_)
  refine amReg PT159_ok (h := ?_)
  refine amStr (h := ?_)
  refine amReg PT159_ok (h := ?_)
  refine amStr (h := ?_)
  obtain ⟨X, hX⟩ : ∃ X, revN vs.length k = X := ⟨_, rfl⟩
  have HX := Lib.hid hX
  rw [hX] at hrl
  clear hX
  have hxl : X < 2 ^ vs.length := by rw [HL.out]; exact hrl
  have hbc := both_chg (f := f) (m := m) hxl (by rw [HL.out]; exact hi)
  have hcl := clrN_lt (m := m) hxl
  rw [HL.out] at hcl hbc
  clear hxl
  have hci := clrN_i64 (x := X) (m := m) (by omega) (by omega)
  obtain ⟨C, hC⟩ : ∃ C, clrN X m = C := ⟨_, rfl⟩
  rw [hC] at hcl hci hbc
  clear hC
  have hwC : IntKind.i64.wrap (C : Int) = (C : Int) := i64w (by omega) (by omega)
  have hCi : (C : Int) < (L : Int) := by omega
  have hCL : C < LL.length := by omega
  have hB := HB.out C hcl
  have hu64 : u64B (k : Int) = true := u64B_iff.2 ⟨by omega, by omega⟩
  refine s_cutK ⟨102, [(4, .ptr 2 0 0), (7, .pt [.v (.int .i64 N), aInts vs, .sl 1 (on.map fun b => [AV.v (.bool b)])]), (9, .v (.int .i64 (m : Int))), (10, .ref 8 0 L), (61, .sl 1 (on.map fun b => [AV.v (.bool b)])), (62, .v (.int .i64 (L : Int))), (63, .v (.int .i64 (k : Int))), (14, .v (.int .i64 (X : Int)))], [(2, ⟨27, 2, [[.v (.int .u64 0), .v (.int .u64 0)]]⟩), (8, ⟨86, 2, LL.map fun b => [AV.v (.bool b.1), AV.v (.bool b.2)]⟩)], [8, 2]⟩ ?_ ?_
  ·(focus ((with_reducible refine sp_cond (b := ?_) ?_ (fun hc => ?_) (fun hc => ?_)); rotate_left; (focus (first | rfl | (simp [lk, AS.ev]; rfl))); all_goals (try simp at hc)))
   ·obtain ⟨c, hcn⟩ : ∃ c, c + vs.length = 64 := ⟨64 - vs.length, by omega⟩
    have hsh := rev_shr (k := k) hcn
    rw [HX.out] at hsh
    have w1 : IntKind.u64.wrap (k : Int) = (k : Int) := u64w (by omega) (by omega)
    have w2 : IntKind.i64.wrap (64 - (vs.length : Int)) = (c : Int) := by rw [show (64 : Int) - (vs.length : Int) = (c : Int) by omega]; exact i64w (by omega) (by omega)
    have w3 : IntKind.u64.wrap (c : Int) = (c : Int) := u64w (by omega) (by omega)
    have hmin : min c IntKind.u64.bits = c := by rw [show IntKind.u64.bits = 64 from rfl]; omega
    have hc0 : ¬ ((c : Int) < 0) := by omega
    have w4 : IntKind.i64.wrap (X : Int) = (X : Int) := i64w (by omega) (by omega)
    clear c1 c2 c3
    refine amReg PT159_ok (h := ?_)
    refine ⟨rfl, fun c Q' k => ?_⟩
    refine s_weak _ ?_ k
    (refine weak_id rfl ?_ ?_ <;> ((try simp only [List.mem_cons, List.not_mem_nil, or_false, forall_eq_or_imp, forall_eq]); (try simp (disch := omega) [i64w, *])))
   ·have hv0 : vs.length = 0 := by first | omega | (rw [hc]; rfl) | simpa using hc
    have hX0 : X = 0 := by
     rw [← HX.out, hv0]
     have := revN_lt (n := 0) (i := k) (by omega) (by rw [← hv0, HL.out]; exact hkk)
     simpa [hv0] using this
    refine amStr (h := ?_)
    refine ⟨rfl, fun c Q' k => ?_⟩
    refine s_weak _ ?_ k
    (refine weak_id rfl ?_ ?_ <;> ((try simp only [List.mem_cons, List.not_mem_nil, or_false, forall_eq_or_imp, forall_eq]); (try simp (disch := omega) [i64w, *])))
  refine amStr (h := ?_)
  refine amReg PT159_ok (h := ?_)
  refine amStr (h := ?_)
  cases hg : chgB f vs.length X m
  ·have hpre : ∀ i, i < k + 1 → chgB f vs.length (revN vs.length i) m = false := fun i hi => by
    by_cases e : i = k
    ·rw [e, HX.out]; exact hg
    ·exact HP.out i (by omega)
   have HP2 := Lib.hid hpre
   clear hpre hbc
   refine amStr (h := ?_)
   refine amReg PT159_ok (h := ?_)
   refine k_lp (⟨k + 1, by omega, HP2⟩ : {k : Nat // k ≤ L ∧ Hid (∀ i, i < k → chgB f vs.length (revN vs.length i) m = false)}) (by first | omega | (dsimp only; omega)) ?_
   (refine weak_id rfl ?_ ?_ <;> ((try simp only [List.mem_cons, List.not_mem_nil, or_false, forall_eq_or_imp, forall_eq]); (try simp (disch := omega) [i64w, *])))
  ·have hfst : fstI f vs.length m = some k := fst_some (by rw [HL.out]; exact hkk) (by rw [HX.out]; exact hg) HP.out
   rw [hfst]
   dsimp only
   rw [HX.out]
   clear hfst hbc hB
   obtain ⟨A, hA⟩ : ∃ A, A + 1 = L := ⟨L - 1, by omega⟩
   have hT := pos_set HV.out (x := X)
   rw [HL.out, show L - 1 = A by omega] at hT
   have hlx := term_lits HV.out X A
   have hto := term_ok HV.out h16 X A
   have htl := termL_len vs X A
   have hob := term_obj N vs on X A hok (by omega) (by omega)
   have hwA : IntKind.i64.wrap ((L : Int) - 1) = (A : Int) := by rw [show (L : Int) - 1 = (A : Int) by omega]; exact i64w (by omega) (by omega)
   refine s_weak (τ := ⟨102, [(4, .ptr 2 0 0), (7, .pt [.v (.int .i64 N), aInts vs, .sl 1 (on.map fun b => [AV.v (.bool b)])]), (14, .v (.int .i64 (X : Int))), (88, .v (.bool true))], [(2, ⟨27, 2, [[.v (.int .u64 0), .v (.int .u64 0)]]⟩)], [2]⟩) ?_ ?_
   ·(refine weak_id rfl ?_ ?_ <;> ((try simp only [List.mem_cons, List.not_mem_nil, or_false, forall_eq_or_imp, forall_eq]); (try simp (disch := omega) [i64w, *])))
   unfold aTab aBools at hob
   generalize termL vs X A = T at hT hlx hto htl hob
   refine amStr (h := ?_)
   refine s_regionL ?_
   ((iterate 8 (((with_reducible refine spl_step TT_ok PT159_ok (id := 0) (σ' := ?_) ?_ ?_); rotate_left; (focus (simp [*]; rfl))))))
   refine spl_obj hob 300 (by simp) rfl rfl (enters_ok (avs := [.pt [.v (.int .i64 N), aInts vs, .sl 1 (on.map fun b => [AV.v (.bool b)])], .v (.int .i64 (X : Int)), .v (.int .i64 (A : Int))]) (cs := []) rfl (by kernel_rfl) rfl rfl) (by simp [idsL, AV.ids]) (fun c h => by cases h) ?_
   simp only [shO, AV.ren, Nat.zero_add, List.map_cons, List.map_nil, List.cons_append, List.nil_append]
   (refine spl_eq (τ := ?_) ?_ ?_; rotate_left; (focus ((try simp only [AS.frz, List.map_cons, List.map_nil]); (try simp [frzV, frzO, frzC, List.filter]); rfl)))
   refine spl_call TT_ok rfl rfl rfl (by kernel_rfl) Tryd.func64 rfl (avs := [.ref 300 0 T.length, .v (.func (.func 65) #[] #[])]) (cs := []) rfl rfl (by simp [Tryd.ntmps64]) fun B1 hI1 hro1 => ?_
   rw [Tryd.ntmps64, Tryd.results64]
   simp only [enumA, List.append_nil]
   refine amStr (h := ?_)
   refine amReg PT159_ok (h := ?_)
   refine amStr (h := ?_)
   refine s_regionL ?_
   ((iterate 2 (((with_reducible refine spl_step TT_ok PT159_ok (id := 0) (σ' := ?_) ?_ ?_); rotate_left; (focus (simp [*]; rfl))))))
   refine spl_call TT_ok rfl rfl rfl (by kernel_rfl) Tryd.func86 rfl (avs := [.ref 300 0 T.length, .v (.func (.func 65) #[] #[])]) (cs := []) rfl rfl (by simp [Tryd.ntmps86]) fun B2 hI2 hro2 => ?_
   rw [Tryd.ntmps86, Tryd.results86]
   simp only [enumA, List.append_nil]
   refine amStr (h := ?_)
   refine amReg PT159_ok (h := ?_)
   refine amStr (h := ?_)
   refine amReg PT159_ok (h := ?_)
   refine amStr (h := ?_)
   refine s_loopI hI2 (J := fun i : {j : Nat // j ≤ T.length ∧ Hid (posL (T.take j) = T.take j)} => ⟨19, [(0, .ref 300 0 T.length), (1, .v (.func (.func 65) #[] #[])), (7, .v (.int .i64 (T.length : Int))), (8, .v (.int .i64 (i.1 : Int)))], [(300, ⟨3, 1, T.map fun x => [.v (.int .i64 x)]⟩), (2, ⟨27, 2, [[.v (.int .u64 0), .v (.int .u64 0)]]⟩)], [300, 2]⟩) (μ := fun i => T.length - i.1) ⟨0, Nat.zero_le _, Lib.hid rfl⟩ ?_ (fun ⟨j, hj, HJ⟩ => ?_)
   ·(refine weakI_of (fun q => q) ⟨rfl, ?_, ?_, ?_⟩ ?_ <;> ((try simp only [List.mem_cons, List.not_mem_nil, or_false, forall_eq_or_imp, forall_eq]); (try simp (disch := omega) [lk, AV.ids, idsL, idsLL, AV.ren, renL, renLL, i64w, *])))
   refine amStr (h := ?_)
   refine amReg PT159_ok (h := ?_)
   refine amStr (h := ?_)
   (focus ((with_reducible refine sp_cond (b := ?_) ?_ (fun hc => ?_) (fun hc => ?_)); rotate_left; (focus (first | rfl | (simp [lk, AS.ev]; rfl))); all_goals (try simp at hc)))
   ·have hjj := hc
    clear hc
    have hv2 := getD_lit hlx j
    have ho := okI_iff.2 (okInts_at hto j)
    have hwj : IntKind.i64.wrap ((j : Int) + 1) = (j : Int) + 1 := i64w (by omega) (by omega)
    refine amStr (h := ?_)
    refine amReg PT159_ok (h := ?_)
    refine amStr (h := ?_)
    refine amReg PT159_ok (h := ?_)
    refine amStr (h := ?_)
    (focus ((with_reducible refine sp_cond (b := ?_) ?_ (fun hc => ?_) (fun hc => ?_)); rotate_left; (focus (first | rfl | (simp [lk, AS.ev]; rfl))); all_goals (try simp at hc)))
    ·have hneg := hc
     clear hc
     obtain ⟨hd1, hd2⟩ := del_start hjj HJ.out hneg
     have HD1 := Lib.hid hd1
     have HD2 := Lib.hid hd2
     clear hd1 hd2
     have hj0 : ((j : Int) == -1) = false := by rw [beq_eq_false_iff_ne]; omega
     refine amStr (h := ?_)
     refine amReg PT159_ok (h := ?_)
     refine amStr (h := ?_)
     refine ⟨.inr rfl, .v (.int .i64 (j : Int)), ?_, ?_⟩
     ·simp [retA, retL, ret1, lk]
     ((iterate 1 (((with_reducible refine spl_step TT_ok PT159_ok (id := 0) (σ' := ?_) ?_ ?_); rotate_left; (focus (simp [*]; rfl))))))
     refine spl_nil ?_
     refine amStr (h := ?_)
     refine amReg PT159_ok (h := ?_)
     refine amStr (h := ?_)
     refine amReg PT159_ok (h := ?_)
     refine amStr (h := ?_)
     refine s_loopI hI1 (J := fun i : {q : Nat × List Int // q.1 ≤ T.length ∧ Hid (DelI T q.1 q.2) ∧ (posL (T.take q.1)).length < q.1} => ⟨42, [(0, .ref 300 0 T.length), (1, .v (.func (.func 65) #[] #[])), (5, .v (.int .i64 ((posL (T.take i.1.1)).length : Int))), (6, .v (.int .i64 (i.1.1 : Int)))], [(300, ⟨3, 1, i.1.2.map fun x => [.v (.int .i64 x)]⟩), (2, ⟨27, 2, [[.v (.int .u64 0), .v (.int .u64 0)]]⟩)], [300, 2]⟩) (μ := fun i => T.length - i.1.1) ⟨(j + 1, T), hjj, HD1, by rw [HD2.out]; omega⟩ ?_ (fun ⟨⟨j2, D⟩, hj2, HD, hlt2⟩ => ?_)
     ·have hd2 := HD2.out
      (refine weakI_of (fun q => q) ⟨rfl, ?_, ?_, ?_⟩ ?_ <;> ((try simp only [List.mem_cons, List.not_mem_nil, or_false, forall_eq_or_imp, forall_eq]); (try simp (disch := omega) [lk, AV.ids, idsL, idsLL, AV.ren, renL, renLL, i64w, *])))
     dsimp only at hj2 HD hlt2
     dsimp only
     have hDl := HD.out.1
     have hDg := HD.out.2.2 j2 (Nat.le_refl _)
     have htT := htl
     refine amStr (h := ?_)
     refine amReg PT159_ok (h := ?_)
     refine amStr (h := ?_)
     (focus ((with_reducible refine sp_cond (b := ?_) ?_ (fun hc => ?_) (fun hc => ?_)); rotate_left; (focus (first | rfl | (simp [lk, AS.ev]; rfl))); all_goals (try simp at hc)))
     ·have hjj2 : j2 < T.length := by omega
      clear hc
      have hjD : j2 < D.length := by omega
      have ho2 := okI_iff.2 (okInts_at hto j2)
      have hw2 : IntKind.i64.wrap ((j2 : Int) + 1) = (j2 : Int) + 1 := i64w (by omega) (by omega)
      by_cases hv3 : T.getD j2 0 < 0
      ·obtain ⟨g1, g2⟩ := del_skip hjj2 HD.out hv3
       have G1 := Lib.hid g1
       have hlt3 : (posL (T.take (j2 + 1))).length < j2 + 1 := by omega
       clear g1
       refine amStr (h := ?_)
       refine amReg PT159_ok (h := ?_)
       refine amStr (h := ?_)
       refine amReg PT159_ok (h := ?_)
       refine amStr (h := ?_)
       refine amReg PT159_ok (h := ?_)
       refine ki_lp (⟨(j2 + 1, D), hjj2, G1, hlt3⟩ : {q : Nat × List Int // q.1 ≤ T.length ∧ Hid (DelI T q.1 q.2) ∧ (posL (T.take q.1)).length < q.1}) (by first | omega | (dsimp only; omega)) ?_
       (refine weakI_of (fun q => q) ⟨rfl, ?_, ?_, ?_⟩ ?_ <;> ((try simp only [List.mem_cons, List.not_mem_nil, or_false, forall_eq_or_imp, forall_eq]); (try simp (disch := omega) [lk, AV.ids, idsL, idsLL, AV.ren, renL, renLL, i64w, *])))
      ·obtain ⟨g1, g2⟩ := del_keep hjj2 HD.out hv3 hlt2
       have G1 := Lib.hid g1
       have hlt3 : (posL (T.take (j2 + 1))).length < j2 + 1 := by omega
       clear g1
       have hiD : (posL (T.take j2)).length < D.length := by omega
       have hiT : (posL (T.take j2)).length < T.length := by omega
       have hiT2 : ((posL (T.take j2)).length : Int) < (T.length : Int) := by omega
       have hv4 : 0 ≤ T.getD j2 0 := by omega
       have hw5 : IntKind.i64.wrap (((posL (T.take j2)).length : Int) + 1) = ((posL (T.take j2)).length : Int) + 1 := i64w (by omega) (by omega)
       clear hv3
       refine amStr (h := ?_)
       refine amReg PT159_ok (h := ?_)
       refine amStr (h := ?_)
       refine amReg PT159_ok (h := ?_)
       refine amStr (h := ?_)
       refine amReg PT159_ok (h := ?_)
       refine amStr (h := ?_)
       refine amReg PT159_ok (h := ?_)
       refine amStr (h := ?_)
       refine amReg PT159_ok (h := ?_)
       refine ki_lp (⟨(j2 + 1, D.set (posL (T.take j2)).length (T.getD j2 0)), hjj2, G1, hlt3⟩ : {q : Nat × List Int // q.1 ≤ T.length ∧ Hid (DelI T q.1 q.2) ∧ (posL (T.take q.1)).length < q.1}) (by first | omega | (dsimp only; omega)) ?_
       (refine weakI_of (fun q => q) ⟨rfl, ?_, ?_, ?_⟩ ?_ <;> ((try simp only [List.mem_cons, List.not_mem_nil, or_false, forall_eq_or_imp, forall_eq]); (try simp (disch := omega) [lk, AV.ids, idsL, idsLL, AV.ren, renL, renLL, i64w, *])))
     ·have hje : j2 = T.length := by omega
      clear hc
      subst hje
      have hDt := HD.out.2.1
      rw [List.take_length] at hDt hlt2
      have hpl := posL_len T
      refine amStr (h := ?_)
      refine s_regionL ?_
      ((iterate 3 (((with_reducible refine spl_step TT_ok PT159_ok (id := 0) (σ' := ?_) ?_ ?_); rotate_left; (focus (simp [*]; rfl))))))
      (((with_reducible refine spl_stepX TT_ok PT159_ok (id := 0) (σ' := ?_) ?_ ?_); rotate_left; (focus (simp [stepX, coreX, cSliceNil, cClip, cStrB, cAppIn, cAppZ, cClear, cCap, isIntT, isStrT, isByteT, *]; rfl))))
      refine spl_nil ?_
      have hfr : List.take (posL T).length (List.map (fun x => [AV.v (.int .i64 x)]) D) = (posL T).map fun x => [AV.v (.int .i64 x)] := by rw [← List.map_take, hDt]
      rw [hfr]
      generalize (List.replicate (T.length - (posL T).length) [AV.v (.int .i64 0)] ++ List.drop T.length (List.map (fun x => [AV.v (.int .i64 x)]) D)) = Z
      have hrd : List.take (posL T).length (((posL T).map fun x => [AV.v (.int .i64 x)]) ++ Z) = (posL T).map fun x => [AV.v (.int .i64 x)] := List.take_left' (by simp)
      have hpo : okInts (posL T) = true := okInts_pos hto
      clear hfr
      refine amStr (h := ?_)
      refine amReg PT159_ok (h := ?_)
      refine amStr (h := ?_)
      refine ⟨.inr rfl, .ref 300 0 (posL T).length, ?_, ?_⟩
      ·simp [retA, retL, ret1, lk]
      (refine spl_eq (τ := ?_) ?_ ?_; rotate_left; (focus ((try simp only [AS.frz, List.map_cons, List.map_nil]); (try simp [frzV, frzO, frzC, List.filter]); rfl)))
      refine spl_frz (fun q => q == 300) ?_
      (refine spl_eq (τ := ?_) ?_ ?_; rotate_left; (focus ((try simp only [AS.frz, List.map_cons, List.map_nil]); (try simp [frzV, frzO, frzC, List.filter]); rfl)))
      ((iterate 4 (((with_reducible refine spl_step TT_ok PT159_ok (id := 0) (σ' := ?_) ?_ ?_); rotate_left; (focus (simp [*]; rfl))))))
      refine spl_nil ?_
      refine amStr (h := ?_)
      (refine amRt Tryd.results33 (h := ?_); try simp [*])
    ·have hneg := hc
     clear hc
     have hpj : posL (T.take (j + 1)) = T.take (j + 1) := by
      rw [posL_take hjj, if_neg (by omega), HJ.out, List.take_add_one, List.getElem?_eq_getElem hjj]
      simp [List.getD, hjj]
     have HJ2 := Lib.hid hpj
     clear hpj
     refine amStr (h := ?_)
     refine amReg PT159_ok (h := ?_)
     refine ki_lp (⟨j + 1, by omega, HJ2⟩ : {j : Nat // j ≤ T.length ∧ Hid (posL (T.take j) = T.take j)}) (by first | omega | (dsimp only; omega)) ?_
     (refine weakI_of (fun q => q) ⟨rfl, ?_, ?_, ?_⟩ ?_ <;> ((try simp only [List.mem_cons, List.not_mem_nil, or_false, forall_eq_or_imp, forall_eq]); (try simp (disch := omega) [lk, AV.ids, idsL, idsLL, AV.ren, renL, renLL, i64w, *])))
   ·obtain rfl : j = T.length := by omega
    have hall := HJ.out
    rw [List.take_length] at hall
    have hpo : okInts (posL T) = true := okInts_pos hto
    rw [hall] at hT hpo
    have HA := Lib.hid hall
    clear hall
    refine amStr (h := ?_)
    refine amReg PT159_ok (h := ?_)
    refine amStr (h := ?_)
    refine ⟨.inr rfl, .v (.int .i64 (-1)), ?_, ?_⟩
    ·simp [retA, retL, ret1, lk]
    ((iterate 1 (((with_reducible refine spl_step TT_ok PT159_ok (id := 0) (σ' := ?_) ?_ ?_); rotate_left; (focus (simp [*]; rfl))))))
    refine spl_nil ?_
    refine amStr (h := ?_)
    refine amReg PT159_ok (h := ?_)
    refine amStr (h := ?_)
    refine amReg PT159_ok (h := ?_)
    refine amStr (h := ?_)
    refine ⟨.inr rfl, .ref 300 0 T.length, ?_, ?_⟩
    ·simp [retA, retL, ret1, lk]
    (refine spl_eq (τ := ?_) ?_ ?_; rotate_left; (focus ((try simp only [AS.frz, List.map_cons, List.map_nil]); (try simp [frzV, frzO, frzC, List.filter]); rfl)))
    refine spl_frz (fun q => q == 300) ?_
    (refine spl_eq (τ := ?_) ?_ ?_; rotate_left; (focus ((try simp only [AS.frz, List.map_cons, List.map_nil]); (try simp [frzV, frzO, frzC, List.filter]); rfl)))
    ((iterate 4 (((with_reducible refine spl_step TT_ok PT159_ok (id := 0) (σ' := ?_) ?_ ?_); rotate_left; (focus (simp [*]; rfl))))))
    refine spl_nil ?_
    refine amStr (h := ?_)
    (refine amRt Tryd.results33 (h := ?_); try simp [*])
 ·obtain rfl : L = k := by omega
  clear hc
  have hfst : fstI f vs.length m = none := fst_none (by rw [HL.out]; exact HP.out)
  rw [hfst]
  dsimp only
  clear hfst
  refine amGo PT159_ok (h := ?_)
  (refine amRt Tryd.results33 (h := ?_); try simp [*])
theorem bias_p (N : Int) (ns : List Nd) (p : BitVec 128) (hN : okI N = true) (h : okNs ns = true) : FnPure Tryd.prog 33 [aNet N ns, aSet p] (bsA N ns p) := by
 cases hv : validN N ns
 ·have ht : tbdR N ns = .tup [.v (.pointer none), .v (.int .i64 1)] := by unfold tbdR; rw [if_pos hv]
  obtain ⟨z1, z2⟩ := words0
  unfold bsA
  rw [if_pos hv]
  unfold aNet aNds aSet WV
  refine fn_sp TT_ok Tryd.func33 (c := _) rfl (by simp [Tryd.ntmps33]) (fun B hI0 hro => ?_)
  rw [Tryd.ntmps33]
  simp only [enumA]
  refine amGo PT159_ok (h := ?_)
  (refine amRt Tryd.results33 (h := ?_); try simp [*])
 by_cases h16 : 16 < (matL ns).length
 ·have ht : tbdR N ns = .tup [.v (.pointer none), .v (.int .i64 2)] := by unfold tbdR; rw [if_neg (by rw [hv]; decide), if_pos h16]
  obtain ⟨z1, z2⟩ := words0
  unfold bsA
  rw [if_neg (by rw [hv]; decide), if_pos h16]
  unfold aNet aNds aSet WV
  refine fn_sp TT_ok Tryd.func33 (c := _) rfl (by simp [Tryd.ntmps33]) (fun B hI0 hro => ?_)
  rw [Tryd.ntmps33]
  simp only [enumA]
  refine amGo PT159_ok (h := ?_)
  (refine amRt Tryd.results33 (h := ?_); try simp [*])
 ·unfold bsA
  rw [if_neg (by rw [hv]; decide), if_neg h16]
  exact bs_ok N ns p hN h hv (by omega)
@[simp] def g_tBias : List AV → Option (AV × Bool)
 | [.agg [.v (.int .i64 N), a0], a1] => (match toNds a0 with | some ns => (match toSet a1 with | some p => if (okI N && okNs ns) = true then some (bsA N ns p, false) else none | none => none) | none => none)
 | _ => none
theorem e_tBias : EntOk Tryd.prog 33 g_tBias := ent_pure (by kernel_rfl) fun args r fr h => by
 unfold g_tBias at h
 split at h
 ·rename_i N a0 a1
  split at h
  ·rename_i ns t0
   split at h
   ·rename_i p t1
    split at h
    ·rename_i hc
     simp only [Bool.and_eq_true] at hc
     obtain ⟨m0, o0⟩ := hc
     cases h
     exact ⟨FnPure.cov (bias_p N ns p m0 o0) (.cons (cov_th _ (cov_nds t0)) (.cons (toSet_inv t1 ▸ Cov.refl _) .nil)), rfl⟩
    ·cases h
   ·cases h
  ·cases h
 ·cases h

def l160 : List (FuncId × (List AV → Option (AV × Bool))) :=
 (33, g_tBias) :: l159
theorem l160_ok : ∀ p ∈ l160, EntOk Tryd.prog p.1 p.2 := ent_cons e_tBias (l159_ok)
def PT160 : PTab := tab l160
theorem PT160_ok : PTok Tryd.prog PT160 := tab_ok l160_ok
@[simp] theorem PT160_tBias : PT160 33 = g_tBias := rfl
@[simp] theorem PT160_old (f : FuncId) (h : decide (f ≠ 33) = true) : PT160 f = PT159 f := tab_old (of_decide_eq_true h)
end Go.Proofs.YtecdhmiamlgibaaDoor
