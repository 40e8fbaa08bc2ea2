/- The table of a net as an argument; the index of an assignment; no condition. -/
import Derived.Test.YtecdhmiamlgibaaDoorFoG
import Derived.Test.YtecdhmiamlgibaaDoorWl
import Derived.Test.YtecdhmiamlgibaaDoorVl
/- Tb39: The table of a net as an argument; the index of an assignment; no condition. -/
namespace Go.Proofs.YtecdhmiamlgibaaDoor
set_option linter.unusedVariables false
set_option linter.unusedSimpArgs false
set_option linter.unusedSectionVars false
open Go.RowKit
open Wlk
attribute [-simp] List.getD_eq_getElem?_getD
set_option maxRecDepth 100000
def aBools (l : List Bool) : AV := .sl 1 (l.map fun b => [AV.v (.bool b)])
def aTab (N : Int) (vs : List Int) (on : List Bool) : AV := .pt [.v (.int .i64 N), aInts vs, aBools on]
def boolsOf : List (List AV) → Option (List Bool)
 | [] => some []
 | [.v (.bool b)] :: r => (boolsOf r).map (b :: ·)
 | _ :: _ => none
def toBools : AV → Option (List Bool)
 | .sl 1 ys => boolsOf ys
 | .v (.slice none 0 0) => some []
 | _ => none
@[simp] theorem boolsOf_map : ∀ l : List Bool, boolsOf (l.map fun b => [AV.v (.bool b)]) = some l
 | [] => rfl
 | b :: r => by simp [boolsOf, boolsOf_map r]
@[simp] theorem toBools_sl (l : List Bool) : toBools (.sl 1 (l.map fun b => [AV.v (.bool b)])) = some l := boolsOf_map l
@[simp] theorem toBools_a (l : List Bool) : toBools (aBools l) = some l := boolsOf_map l
theorem boolsOf_inv : ∀ {ys : List (List AV)} {l : List Bool}, boolsOf ys = some l → ys = l.map fun b => [AV.v (.bool b)]
 | [], l, h => by simp only [boolsOf, Option.some.injEq] at h; subst h; rfl
 | a :: r, l, h => by
  unfold boolsOf at h
  split at h
  ·rename_i he; cases he
  ·rename_i b r2 he
   cases he
   cases h2 : boolsOf r with
   | none => rw [h2] at h; cases h
   | some m => rw [h2] at h; cases h; rw [List.map_cons, ← boolsOf_inv h2]
  ·cases h
theorem cov_bools {a : AV} {l : List Bool} (h : toBools a = some l) : Cov a (aBools l) := fun S v hv => by
 unfold toBools at h
 split at h
 ·rw [boolsOf_inv h] at hv; exact hv
 ·cases h; rw [hv.v_eq]; exact rv_nil 1
 ·cases h
@[simp ↓ high] theorem d_ids_bools (l : List Bool) : idsLL (l.map fun b => [AV.v (.bool b)]) = [] := by
 induction l with
 | nil => rfl
 | cons p r ih => simp [idsLL, idsL, AV.ids, ih]
@[simp ↓ high] theorem d_ren_bools (ρ : Nat → Nat) (l : List Bool) : renLL ρ (l.map fun b => [AV.v (.bool b)]) = l.map fun b => [AV.v (.bool b)] := renLL_pure ρ _ (d_ids_bools l)
@[simp] theorem bools_get {l : List Bool} {k : Nat} (h : k < l.length) : (l.map fun b => [AV.v (.bool b)]).getD k [] = [.v (.bool (l.getD k false))] := by
 simp [List.getD, h]
theorem cov_tab {a b : AV} {vs : List Int} {on : List Bool} (N : Int) (h1 : toInts a = some vs) (h2 : toBools b = some on) : Cov (.pt [.v (.int .i64 N), a, b]) (aTab N vs on) := fun S v hv => by
 cases hv with
 | pt _ bb o us hS g1 g2 =>
  refine .pt _ bb o us hS g1 fun j hj => ?_
  match j, hj with
  | 0, _ => exact g2 0 (by simp)
  | 1, _ => exact cov_ints h1 S _ (g2 1 (by simp))
  | 2, _ => exact cov_bools h2 S _ (g2 2 (by simp))
def okV (vs : List Int) : Bool := decide (vs.length ≤ 16) && decide (vs.Nodup) && vs.all fun v => decide (1 ≤ v) && decide (v ≤ 128)
theorem okV_vs {vs : List Int} (h : okV vs = true) : okVs vs ∧ vs.length ≤ 16 := by
 unfold okV at h
 rw [Bool.and_eq_true, Bool.and_eq_true, decide_eq_true_eq, decide_eq_true_eq, List.all_eq_true] at h
 exact ⟨⟨h.1.2, fun v hv => by simpa using h.2 v hv⟩, h.1.1⟩
theorem okV_at {vs : List Int} (h : okV vs = true) {k : Nat} (hk : k < vs.length) : 1 ≤ vs.getD k 0 ∧ vs.getD k 0 ≤ 128 := (okV_vs h).1.2 _ (gmemI hk)
theorem idxN_take : ∀ {vs : List Int} {k : Nat} (a : BitVec 128), k < vs.length → idxN (vs.take (k + 1)) a = idxN (vs.take k) a + if sHas a (vs.getD k 0) = true then 2 ^ k else 0
 | [], k, a, h => by cases h
 | v :: r, 0, a, h => by simp [idxN]
 | v :: r, k + 1, a, h => by
  have h2 : k < r.length := by simpa using h
  rw [List.take_succ_cons, List.take_succ_cons, idxN, idxN, idxN_take a h2]
  have e : (v :: r).getD (k + 1) 0 = r.getD k 0 := by simp
  rw [e]
  split <;> split <;> omega
theorem or_pow {A k : Nat} (h : A < 2 ^ k) : A ||| 2 ^ k = A + 2 ^ k := by
 rw [Nat.or_comm]
 have := Nat.two_pow_add_eq_or_of_lt (b := A) h 1
 rw [Nat.mul_one] at this
 rw [← this, Nat.add_comm]
theorem bits_i64 : IntKind.i64.bits = 64 := rfl
theorem index_p (N : Int) (vs : List Int) (on : List Bool) (a : BitVec 128) (h : okV vs = true) : FnPure Tryd.prog 53 [aTab N vs on, aSet a] (.v (.int .i64 (idxN vs a : Int))) := by
 obtain ⟨hvs, hl⟩ := okV_vs h
 unfold aTab aSet WV
 refine fn_sp TT_ok Tryd.func53 (c := _) rfl (by simp [Tryd.ntmps53]) (fun B hI0 hro => ?_)
 rw [Tryd.ntmps53]
 simp only [enumA]
 refine amGo PT143_ok (h := ?_)
 refine s_loop (J := fun i : {k : Nat // k ≤ vs.length} => ⟨28, [(3, .ptr 0 0 0), (5, .v (.int .i64 (idxN (vs.take i.1) a : Int))), (11, aInts vs), (12, .v (.int .i64 (vs.length : Int))), (13, .v (.int .i64 (i.1 : Int)))], [(0, ⟨27, 2, [[.v (.int .u64 ((lo a).toNat : Int)), .v (.int .u64 ((hi a).toNat : Int))]]⟩)], [0]⟩) (μ := fun i => vs.length - i.1) ⟨0, Nat.zero_le _⟩ ?_ (fun ⟨k, hk⟩ => ?_)
 ·have h0 : idxN [] a = 0 := rfl
  (refine weak_id rfl ?_ ?_ <;> ((try simp only [List.mem_cons, List.not_mem_nil, or_false, forall_eq_or_imp, forall_eq]); (try simp (disch := omega) [i64w, *])))
 refine amGo PT143_ok (h := ?_)
 (focus ((with_reducible refine sp_cond (b := ?_) ?_ (fun hc => ?_) (fun hc => ?_)); rotate_left; (focus (first | rfl | (simp [lk, AS.ev]; rfl))); all_goals (try simp at hc)))
 ·have hkk := hc
  clear hc
  have hv := okV_at h hkk
  have ho : okI (vs.getD k 0) = true := okI_iff.2 ⟨by omega, by omega⟩
  have hs := idxN_take a hkk
  have hA := idxN_lt (vs.take k) a
  rw [List.length_take, Nat.min_eq_left hk] at hA
  have hwk : IntKind.u64.wrap (k : Int) = (k : Int) := u64w (by omega) (by omega)
  have hk0 : ¬ ((k : Int) < 0) := by omega
  have hmin : min k IntKind.i64.bits = k := by rw [bits_i64]; omega
  have hp : 2 ^ k ≤ 65536 := Nat.pow_le_pow_right (n := 2) (by omega) (show k ≤ 16 by omega)
  have hor := or_pow hA
  obtain ⟨A, hAe⟩ : ∃ A, idxN (vs.take k) a = A := ⟨_, rfl⟩
  obtain ⟨M, hM⟩ : ∃ M : Nat, 2 ^ k = M := ⟨_, rfl⟩
  have hpow : IntKind.i64.wrap (2 ^ k) = (M : Int) := by
   have e : ((2 : Int) ^ k) = (M : Int) := by rw [← hM]; simp
   rw [e]; exact i64w (by omega) (by omega)
  rw [hAe, hM] at hs hor
  rw [hAe, hM] at hA
  rw [hAe]
  have hor2 : A % 2 ^ IntKind.i64.bits ||| M % 2 ^ IntKind.i64.bits = A + M := by
   rw [bits_i64, Nat.mod_eq_of_lt (by omega), Nat.mod_eq_of_lt (by omega)]; exact hor
  have hwr : IntKind.i64.wrap ((A : Int) + (M : Int)) = (A : Int) + (M : Int) := i64w (by omega) (by omega)
  clear hAe hor hM
  cases h1 : sHas a (vs.getD k 0)
  ·rw [h1] at hs
   refine amGo PT143_ok (h := ?_)
   refine k_lp (⟨k + 1, by omega⟩ : {k : Nat // k ≤ vs.length}) (by first | omega | (dsimp only; omega)) ?_
   (refine weak_id rfl ?_ ?_ <;> ((try simp only [List.mem_cons, List.not_mem_nil, or_false, forall_eq_or_imp, forall_eq]); (try simp (disch := omega) [i64w, *])))
  ·rw [h1] at hs
   refine amGo PT143_ok (h := ?_)
   refine k_lp (⟨k + 1, by omega⟩ : {k : Nat // k ≤ vs.length}) (by first | omega | (dsimp only; omega)) ?_
   (refine weak_id rfl ?_ ?_ <;> ((try simp only [List.mem_cons, List.not_mem_nil, or_false, forall_eq_or_imp, forall_eq]); (try simp (disch := omega) [i64w, *])))
 ·obtain rfl : k = vs.length := by omega
  have e : vs.take vs.length = vs := List.take_length
  rw [e]
  refine amGo PT143_ok (h := ?_)
  (refine amRt Tryd.results53 (h := ?_); try simp [*])
@[simp] def g_tIndex : List AV → Option (AV × Bool)
 | [.pt [.v (.int .i64 N), a0, b0], a1] => (match toInts a0 with | some vs => (match toBools b0 with | some on => (match toSet a1 with | some a => if (okV vs) = true then some (.v (.int .i64 (idxN vs a : Int)), false) else none | none => none) | none => none) | none => none)
 | _ => none
theorem e_tIndex : EntOk Tryd.prog 53 g_tIndex := ent_pure (by kernel_rfl) fun args r fr h => by
 unfold g_tIndex at h
 split at h
 ·rename_i N a0 b0 a1
  split at h
  ·rename_i vs t0
   split at h
   ·rename_i on s0
    split at h
    ·rename_i a t1
     split at h
     ·rename_i hc
      have hk := hc
      cases h
      exact ⟨FnPure.cov (index_p N vs on a hk) (.cons (cov_tab _ t0 s0) (.cons (toSet_inv t1 ▸ Cov.refl _) .nil)), rfl⟩
     ·cases h
    ·cases h
   ·cases h
  ·cases h
 ·cases h

def l145 : List (FuncId × (List AV → Option (AV × Bool))) :=
 (53, g_tIndex) :: l143
theorem l145_ok : ∀ p ∈ l145, EntOk Tryd.prog p.1 p.2 := ent_cons e_tIndex (l143_ok)
def PT145 : PTab := tab l145
theorem PT145_ok : PTok Tryd.prog PT145 := tab_ok l145_ok
@[simp] theorem PT145_tIndex : PT145 53 = g_tIndex := rfl
@[simp] theorem PT145_old (f : FuncId) (h : decide (f ≠ 53) = true) : PT145 f = PT143 f := tab_old (of_decide_eq_true h)
end Go.Proofs.YtecdhmiamlgibaaDoor
/- Tm39: The literals of an assignment at some places; no condition. -/
namespace Go.Proofs.YtecdhmiamlgibaaDoor
set_option linter.unusedVariables false
set_option linter.unusedSimpArgs false
set_option linter.unusedSectionVars false
open Go.RowKit
open Wlk
attribute [-simp] List.getD_eq_getElem?_getD
set_option maxRecDepth 100000
theorem termL_take : ∀ {vs : List Int} {k : Nat} (x P : Nat), k < vs.length → termL (vs.take (k + 1)) x P = if P.testBit k = true then (if x.testBit k = true then termL (vs.take k) x P ++ [vs.getD k 0] else termL (vs.take k) x P ++ [-vs.getD k 0]) else termL (vs.take k) x P
 | [], k, x, P, h => by cases h
 | v :: r, 0, x, P, h => by
  simp only [List.take_succ_cons, List.take_zero, termL, Nat.testBit_zero, decide_eq_true_eq, List.nil_append]
  by_cases h1 : P % 2 = 1 <;> by_cases h2 : x % 2 = 1 <;> simp [h1, h2]
 | v :: r, k + 1, x, P, h => by
  have h2 : k < r.length := by simpa using h
  rw [List.take_succ_cons, List.take_succ_cons, termL, termL, termL_take (x / 2) (P / 2) h2, Nat.testBit_succ, Nat.testBit_succ]
  have e : (v :: r).getD (k + 1) 0 = r.getD k 0 := by simp
  rw [e]
  by_cases h3 : P % 2 = 1 <;> by_cases h4 : x % 2 = 1 <;> cases (P / 2).testBit k <;> cases (x / 2).testBit k <;> simp [h3, h4]
theorem termL_len : ∀ (vs : List Int) (x P : Nat), (termL vs x P).length ≤ vs.length
 | [], _, _ => Nat.le_refl _
 | v :: r, x, P => by
  have := termL_len r (x / 2) (P / 2)
  unfold termL
  split
  ·rw [List.length_cons, List.length_cons]; omega
  ·rw [List.length_cons]; omega
theorem bit_and (Q : Nat) (hQ : Q < 2 ^ 64) : (IntKind.i64.wrap ((Q % 2 ^ IntKind.i64.bits &&& 1 % 2 ^ IntKind.i64.bits : Nat) : Int)) = ((Q % 2 : Nat) : Int) := by
 rw [bits_i64, Nat.mod_eq_of_lt hQ, Nat.mod_eq_of_lt (by decide), Nat.and_one_is_mod]
 exact i64w (by omega) (by omega)
theorem fdiv_pow (P k : Nat) : ((P : Int)).fdiv (2 ^ k) = ((P / 2 ^ k : Nat) : Int) := by
 rw [Int.fdiv_eq_ediv_of_nonneg _ (by exact Int.le_of_lt (Int.pow_pos (by decide)))]
 simp
theorem bit_div (P k : Nat) : P.testBit k = decide (P / 2 ^ k % 2 = 1) := Nat.testBit_eq_decide_div_mod_eq ..
theorem term_p (N : Int) (vs : List Int) (on : List Bool) (x P : Nat) (h : okV vs = true) (hx : x ≤ 65535) (hP : P ≤ 65535) : FnPure Tryd.prog 45 [aTab N vs on, .v (.int .i64 (x : Int)), .v (.int .i64 (P : Int))] (aInts (termL vs x P)) := by
 obtain ⟨hvs, hl⟩ := okV_vs h
 unfold aTab
 refine fn_sp TT_ok Tryd.func45 (c := _) rfl (by simp [Tryd.ntmps45]) (fun B hI0 hro => ?_)
 rw [Tryd.ntmps45]
 simp only [enumA]
 refine amStr (h := ?_)
 refine amReg PT145_ok (h := ?_)
 refine amStr (h := ?_)
 refine amReg PT145_ok (h := ?_)
 refine amStr (h := ?_)
 refine amReg PT145_ok (h := ?_)
 refine amStr (h := ?_)
 refine s_nil 7 50 3 1 (by simp [lk]) (by simp) ?_
 simp only [st]
 refine s_loop (J := fun i : {k : Nat // k ≤ vs.length} => ⟨45, [(1, .v (.int .i64 (x : Int))), (2, .v (.int .i64 (P : Int))), (7, .ref 50 0 (termL (vs.take i.1) x P).length), (13, aInts vs), (14, .v (.int .i64 (vs.length : Int))), (15, .v (.int .i64 (i.1 : Int)))], [(50, ⟨3, 1, (termL (vs.take i.1) x P).map fun x => [.v (.int .i64 x)]⟩)], [50]⟩) (μ := fun i => vs.length - i.1) ⟨0, Nat.zero_le _⟩ ?_ (fun ⟨k, hk⟩ => ?_)
 ·have h0 : termL [] x P = [] := rfl
  (refine weak_id rfl ?_ ?_ <;> ((try simp only [List.mem_cons, List.not_mem_nil, or_false, forall_eq_or_imp, forall_eq]); (try simp (disch := omega) [i64w, *])))
 refine amStr (h := ?_)
 refine amReg PT145_ok (h := ?_)
 refine amStr (h := ?_)
 (focus ((with_reducible refine sp_cond (b := ?_) ?_ (fun hc => ?_) (fun hc => ?_)); rotate_left; (focus (first | rfl | (simp [lk, AS.ev]; rfl))); all_goals (try simp at hc)))
 ·have hkk := hc
  clear hc
  have hv := okV_at h hkk
  have ho : okI (vs.getD k 0) = true := okI_iff.2 ⟨by omega, by omega⟩
  have hs := termL_take x P hkk
  have hlen := termL_len (vs.take k) x P
  rw [List.length_take, Nat.min_eq_left hk] at hlen
  have hwk : IntKind.u64.wrap (k : Int) = (k : Int) := u64w (by omega) (by omega)
  have hk0 : ¬ ((k : Int) < 0) := by omega
  have hmin : min k IntKind.i64.bits = k := by rw [bits_i64]; omega
  have f1 := fdiv_pow P k
  have f2 := fdiv_pow x k
  simp only [bit_div, decide_eq_true_eq] at hs
  have q1 : P / 2 ^ k ≤ P := Nat.div_le_self _ _
  have q2 : x / 2 ^ k ≤ x := Nat.div_le_self _ _
  obtain ⟨Q, hQ⟩ : ∃ Q, P / 2 ^ k = Q := ⟨_, rfl⟩
  obtain ⟨Y, hY⟩ : ∃ Y, x / 2 ^ k = Y := ⟨_, rfl⟩
  rw [hQ] at f1 hs q1
  rw [hY] at f2 hs q2
  have g1 := bit_and Q (by omega)
  have g2 := bit_and Y (by omega)
  obtain ⟨T, hT⟩ : ∃ T, termL (vs.take k) x P = T := ⟨_, rfl⟩
  rw [hT] at hs hlen
  rw [hT]
  clear hQ hY hT
  have hcap : (T.length + 1) * 8 ≤ 140737488355328 := by omega
  have hwn : IntKind.i64.wrap (-vs.getD k 0) = -vs.getD k 0 := i64w (by omega) (by omega)
  rcases (by omega : Q % 2 = 0 ∨ Q % 2 = 1) with hq | hq
  ·rw [if_neg (by omega)] at hs
   refine amGo PT145_ok (h := ?_)
   refine k_lp (⟨k + 1, by omega⟩ : {k : Nat // k ≤ vs.length}) (by first | omega | (dsimp only; omega)) ?_
   (refine weak_id rfl ?_ ?_ <;> ((try simp only [List.mem_cons, List.not_mem_nil, or_false, forall_eq_or_imp, forall_eq]); (try simp (disch := omega) [i64w, *])))
  ·rw [if_pos hq] at hs
   rcases (by omega : Y % 2 = 0 ∨ Y % 2 = 1) with hy | hy
   ·rw [if_neg (by omega)] at hs
    refine amGo PT145_ok (h := ?_)
    refine k_lp (⟨k + 1, by omega⟩ : {k : Nat // k ≤ vs.length}) (by first | omega | (dsimp only; omega)) ?_
    (refine weak_of (fun q => if q = 50 then 55 else q) ⟨rfl, ?_, ?_, ?_⟩ <;> ((try simp only [List.mem_cons, List.not_mem_nil, or_false, forall_eq_or_imp, forall_eq]); (try simp (disch := omega) [lk, AV.ids, idsL, idsLL, AV.ren, renL, renLL, i64w, *])))
   ·rw [if_pos hy] at hs
    refine amGo PT145_ok (h := ?_)
    refine k_lp (⟨k + 1, by omega⟩ : {k : Nat // k ≤ vs.length}) (by first | omega | (dsimp only; omega)) ?_
    (refine weak_of (fun q => if q = 50 then 54 else q) ⟨rfl, ?_, ?_, ?_⟩ <;> ((try simp only [List.mem_cons, List.not_mem_nil, or_false, forall_eq_or_imp, forall_eq]); (try simp (disch := omega) [lk, AV.ids, idsL, idsLL, AV.ren, renL, renLL, i64w, *])))
 ·obtain rfl : k = vs.length := by omega
  have e : vs.take vs.length = vs := List.take_length
  rw [e]
  refine amGo PT145_ok (h := ?_)
  (refine amRt Tryd.results45 (h := ?_); try simp [*])
@[simp] def g_tTerm : List AV → Option (AV × Bool)
 | [.pt [.v (.int .i64 N), a0, b0], .v (.int .i64 x), .v (.int .i64 y)] => (match toInts a0 with | some vs => (match toBools b0 with | some on => if (okI x && okI y && (okV vs && decide (0 ≤ x) && decide (x ≤ 65535) && decide (0 ≤ y) && decide (y ≤ 65535))) = true then some (aInts (termL vs x.toNat y.toNat), false) else none | none => none) | none => none)
 | _ => none
theorem e_tTerm : EntOk Tryd.prog 45 g_tTerm := ent_pure (by kernel_rfl) fun args r fr h => by
 unfold g_tTerm at h
 split at h
 ·rename_i N a0 b0 x y
  split at h
  ·rename_i vs t0
   split at h
   ·rename_i on s0
    split at h
    ·rename_i hc
     simp only [Bool.and_eq_true] at hc
     obtain ⟨⟨o1, o2⟩, hk⟩ := hc
     cases h
     exact ⟨FnPure.cov ((by have h := term_p N vs on x.toNat y.toNat hk.1.1.1.1 (by have := of_decide_eq_true hk.1.1.2; omega) (by have := of_decide_eq_true hk.2; omega); rw [Int.toNat_of_nonneg (of_decide_eq_true hk.1.1.1.2), Int.toNat_of_nonneg (of_decide_eq_true hk.1.2)] at h; exact h)) (.cons (cov_tab _ t0 s0) (.cons (Cov.refl _) (.cons (Cov.refl _) .nil))), rfl⟩
    ·cases h
   ·cases h
  ·cases h
 ·cases h

def l146 : List (FuncId × (List AV → Option (AV × Bool))) :=
 (45, g_tTerm) :: l145
theorem l146_ok : ∀ p ∈ l146, EntOk Tryd.prog p.1 p.2 := ent_cons e_tTerm (l145_ok)
def PT146 : PTab := tab l146
theorem PT146_ok : PTok Tryd.prog PT146 := tab_ok l146_ok
@[simp] theorem PT146_tTerm : PT146 45 = g_tTerm := rfl
@[simp] theorem PT146_old (f : FuncId) (h : decide (f ≠ 45) = true) : PT146 f = PT145 f := tab_old (of_decide_eq_true h)
end Go.Proofs.YtecdhmiamlgibaaDoor
/- Cg39: Whether changes at some places change the result: the table's changes; no condition. -/
namespace Go.Proofs.YtecdhmiamlgibaaDoor
set_option linter.unusedVariables false
set_option linter.unusedSimpArgs false
set_option linter.unusedSectionVars false
open Go.RowKit
open Wlk
attribute [-simp] List.getD_eq_getElem?_getD
set_option maxRecDepth 100000
def chgL (f : Nat → Bool) (n at0 : Nat) : List Bool := (List.range (2 ^ n)).map fun m => chgB f n at0 m
theorem chgL_len (f : Nat → Bool) (n at0 : Nat) : (chgL f n at0).length = 2 ^ n := by unfold chgL; simp
theorem chgL_get {f : Nat → Bool} {n at0 m : Nat} (h : m < 2 ^ n) : (chgL f n at0).getD m false = chgB f n at0 m := by unfold chgL; simp [List.getD, h]
theorem xor_i64 {a b : Nat} (ha : a < 2 ^ 64) (hb : b < 2 ^ 64) : a % 2 ^ IntKind.i64.bits ^^^ b % 2 ^ IntKind.i64.bits = a ^^^ b := by
 rw [bits_i64, Nat.mod_eq_of_lt ha, Nat.mod_eq_of_lt hb]
theorem andn_i64 {y b : Nat} (hy : y < 2 ^ 63) (hb : b < 63) : y % 2 ^ IntKind.i64.bits &&& 2 ^ IntKind.i64.bits - 1 - 2 ^ b % 2 ^ IntKind.i64.bits = if y.testBit b = true then y ^^^ 2 ^ b else y := by
 have hp : 2 ^ b < 2 ^ 63 := Nat.pow_lt_pow_right (by omega) hb
 rw [bits_i64, Nat.mod_eq_of_lt (by omega), Nat.mod_eq_of_lt (by omega)]
 apply Nat.eq_of_testBit_eq
 intro i
 rw [Nat.testBit_and, show 2 ^ 64 - 1 - 2 ^ b = 2 ^ 64 - (2 ^ b + 1) by omega, Nat.testBit_two_pow_sub_succ (by omega), Nat.testBit_two_pow]
 by_cases e : b = i
 ·subst e
  split
  ·rename_i h; rw [Nat.testBit_xor, Nat.testBit_two_pow, h]; simp
  ·rename_i h; rw [Bool.not_eq_true] at h; rw [h]; simp
 ·rw [decide_eq_false e]
  have : (y.testBit i && (decide (i < 64) && !false)) = y.testBit i := by
   by_cases hi : i < 64
   ·simp [hi]
   ·have : y.testBit i = false := Nat.testBit_lt_two_pow (Nat.lt_of_lt_of_le (by omega : y < 2 ^ 64) (Nat.pow_le_pow_right (by omega) (Nat.le_of_not_lt hi)))
    rw [this]; rfl
  rw [this]
  split
  ·rw [Nat.testBit_xor, Nat.testBit_two_pow, decide_eq_false e, Bool.xor_false]
  ·rfl
theorem up_step {f : Nat → Bool} {x b y Y L : Nat} {UU : List Bool} (hY : Y = if y.testBit b = true then y ^^^ 2 ^ b else y) (hlo : ∀ j, j < y → UU.getD j false = upK f x (b + 1) j) (hhi : ∀ j, y ≤ j → j < L → UU.getD j false = upK f x b j) (hyL : y < L) : Y ≤ y ∧ upK f x (b + 1) y = (UU.getD y false || UU.getD Y false) := by
 have h1 := hhi y (Nat.le_refl y) hyL
 by_cases hb : y.testBit b = true
 ·rw [if_pos hb] at hY
  have hlt := xor_lt_self hb
  have h2 := hlo Y (by omega)
  refine ⟨by omega, ?_⟩
  have hYb : Y.testBit b = false := by rw [hY, Nat.testBit_xor, Nat.testBit_two_pow, hb]; simp
  rw [h1, h2, upK, upK, hb, hYb, Bool.true_and, Bool.false_and, Bool.or_false, hY]
 ·rw [if_neg hb] at hY
  subst hY
  rw [Bool.not_eq_true] at hb
  refine ⟨Nat.le_refl _, ?_⟩
  rw [h1, upK, hb, Bool.false_and, Bool.or_false, Bool.or_self]
theorem changes_p (N : Int) (vs : List Int) (on : List Bool) (x : Nat) (h : okV vs = true) (ho : on.length = 2 ^ vs.length) (hx : x < 2 ^ vs.length) : FnPure Tryd.prog 44 [aTab N vs on, .v (.int .i64 (x : Int))] (aBools (chgL (fun i => on.getD i false) vs.length x)) := by
 obtain ⟨hvs, hl⟩ := okV_vs h
 have hp : 2 ^ vs.length ≤ 65536 := Nat.pow_le_pow_right (n := 2) (by omega) (show vs.length ≤ 16 by omega)
 obtain ⟨L, hL⟩ : ∃ L, 2 ^ vs.length = L := ⟨_, rfl⟩
 rw [hL] at ho hx hp
 have c1 : (L : Int) ≤ 281474976710656 := by omega
 have c2 : (L : Int) ≤ 9223372036854775807 := by omega
 have hxl : (x : Int) < (L : Int) := by omega
 unfold aTab aBools
 refine fn_sp TT_ok Tryd.func44 (c := _) rfl (by simp [Tryd.ntmps44]) (fun B hI0 hro => ?_)
 rw [Tryd.ntmps44]
 simp only [enumA]
 refine amStr (h := ?_)
 refine amReg PT146_ok (h := ?_)
 refine amStr (h := ?_)
 refine amReg PT146_ok (h := ?_)
 refine amStr (h := ?_)
 refine amReg PT146_ok (h := ?_)
 refine amStr (h := ?_)
 refine s_loop (J := fun i : {p : Nat × List Bool // p.1 ≤ L ∧ p.2.length = L ∧ ∀ j, j < p.1 → p.2.getD j false = upK (fun i => on.getD i false) x 0 j} => ⟨66, [(0, .pt [.v (.int .i64 N), aInts vs, .sl 1 (on.map fun b => [AV.v (.bool b)])]), (1, .v (.int .i64 (x : Int))), (5, .ptr 6 0 0), (18, .v (.int .i64 (L : Int))), (19, .v (.int .i64 (i.1.1 : Int)))], [(5, ⟨4, 1, i.1.2.map fun b => [AV.v (.bool b)]⟩), (6, ⟨65, 1, [[.ref 5 0 L]]⟩)], [6, 5]⟩) (μ := fun i => L - i.1.1) ⟨(0, List.replicate L false), Nat.zero_le _, List.length_replicate .., fun j hj => by omega⟩ ?_ (fun ⟨⟨k, LL⟩, hk, hLL, hpre⟩ => ?_)
 ·(refine weak_id rfl ?_ ?_ <;> ((try simp only [List.mem_cons, List.not_mem_nil, or_false, forall_eq_or_imp, forall_eq]); (try simp (disch := omega) [i64w, *])))
 dsimp only at hk hLL hpre
 dsimp only
 refine amStr (h := ?_)
 refine amReg PT146_ok (h := ?_)
 refine amStr (h := ?_)
 (focus ((with_reducible refine sp_cond (b := ?_) ?_ (fun hc => ?_) (fun hc => ?_)); rotate_left; (focus (first | rfl | (simp [lk, AS.ev]; rfl))); all_goals (try simp at hc)))
 ·have hkk := hc
  clear hc
  have hZ : x ^^^ k < L := by rw [← hL] at hx hkk ⊢; exact Nat.xor_lt_two_pow hx hkk
  have hup : upK (fun i => on.getD i false) x 0 k = (on.getD (x ^^^ k) false != on.getD x false) := rfl
  have hxo := xor_i64 (a := x) (b := k) (by omega) (by omega)
  obtain ⟨Z, hZe⟩ : ∃ Z, x ^^^ k = Z := ⟨_, rfl⟩
  rw [hZe] at hZ hup hxo
  have hwz : IntKind.i64.wrap (Z : Int) = (Z : Int) := i64w (by omega) (by omega)
  clear hZe
  have hkL : k < LL.length := by omega
  have hZo : Z < on.length := by omega
  have hxo2 : x < on.length := by omega
  refine amStr (h := ?_)
  refine amReg PT146_ok (h := ?_)
  refine amStr (h := ?_)
  refine amDrw PT146_ok (h := ?_)
  refine amStr (h := ?_)
  refine amReg PT146_ok (h := ?_)
  refine k_lp (⟨(k + 1, LL.set k (on.getD Z false != on.getD x false)), by omega, by simp [hLL], fun j hj => ?_⟩ : {p : Nat × List Bool // p.1 ≤ L ∧ p.2.length = L ∧ ∀ j, j < p.1 → p.2.getD j false = upK (fun i => on.getD i false) x 0 j}) (by first | omega | (dsimp only; omega)) ?_
  ·by_cases e : j < k
   ·rw [getD_set_ne (by omega)]; exact hpre j e
   ·obtain rfl : j = k := by omega
    rw [getD_set_eq hkL, hup]
  ·(refine weak_id rfl ?_ ?_ <;> ((try simp only [List.mem_cons, List.not_mem_nil, or_false, forall_eq_or_imp, forall_eq]); (try simp (disch := omega) [i64w, *])))
   rfl
 obtain rfl : L = k := by omega
 clear hc
 refine amStr (h := ?_)
 refine amReg PT146_ok (h := ?_)
 refine amStr (h := ?_)
 refine s_loop (J := fun i : {p : Nat × List Bool // p.1 ≤ vs.length ∧ p.2.length = L ∧ Hid (∀ j, j < L → p.2.getD j false = upK (fun i => on.getD i false) x p.1 j)} => ⟨66, [(5, .ptr 6 0 0), (47, .v (.int .i64 (vs.length : Int))), (48, .v (.int .i64 (i.1.1 : Int)))], [(5, ⟨4, 1, i.1.2.map fun b => [AV.v (.bool b)]⟩), (6, ⟨65, 1, [[.ref 5 0 L]]⟩)], [6, 5]⟩) (μ := fun i => vs.length - i.1.1) ⟨(0, LL), Nat.zero_le _, hLL, Lib.hid fun j hj => hpre j hj⟩ ?_ (fun ⟨⟨b, MM⟩, hb, hMM, hq⟩ => ?_)
 ·(refine weak_id rfl ?_ ?_ <;> ((try simp only [List.mem_cons, List.not_mem_nil, or_false, forall_eq_or_imp, forall_eq]); (try simp (disch := omega) [i64w, *])))
 dsimp only at hb hMM hq
 dsimp only
 refine amStr (h := ?_)
 refine amReg PT146_ok (h := ?_)
 refine amStr (h := ?_)
 (focus ((with_reducible refine sp_cond (b := ?_) ?_ (fun hc => ?_) (fun hc => ?_)); rotate_left; (focus (first | rfl | (simp [lk, AS.ev]; rfl))); all_goals (try simp at hc)))
 ·have hbb := hc
  clear hc
  have hwk : IntKind.u64.wrap (b : Int) = (b : Int) := u64w (by omega) (by omega)
  have hk0 : ¬ ((b : Int) < 0) := by omega
  have hmin : min b IntKind.i64.bits = b := by rw [bits_i64]; omega
  have hpb : 2 ^ b < 2 ^ vs.length := Nat.pow_lt_pow_right (by omega) hbb
  obtain ⟨M, hM⟩ : ∃ M : Nat, 2 ^ b = M := ⟨_, rfl⟩
  have hpow : IntKind.i64.wrap (2 ^ b) = (M : Int) := by
   have e : ((2 : Int) ^ b) = (M : Int) := by rw [← hM]; simp
   rw [e]; exact i64w (by omega) (by omega)
  refine amStr (h := ?_)
  refine amReg PT146_ok (h := ?_)
  refine amStr (h := ?_)
  refine amReg PT146_ok (h := ?_)
  refine amStr (h := ?_)
  refine amReg PT146_ok (h := ?_)
  refine amStr (h := ?_)
  refine amReg PT146_ok (h := ?_)
  refine amStr (h := ?_)
  refine s_loop (J := fun i : {q : Nat × List Bool // q.1 ≤ L ∧ q.2.length = L ∧ Hid (∀ j, j < q.1 → q.2.getD j false = upK (fun i => on.getD i false) x (b + 1) j) ∧ Hid (∀ j, q.1 ≤ j → j < L → q.2.getD j false = upK (fun i => on.getD i false) x b j)} => ⟨66, [(5, .ptr 6 0 0), (47, .v (.int .i64 (vs.length : Int))), (48, .v (.int .i64 (b : Int))), (9, .clo 73 [.ptr 6 0 0, .ptr 10 0 0]), (56, .v (.int .i64 (L : Int))), (57, .v (.int .i64 (i.1.1 : Int)))], [(5, ⟨4, 1, i.1.2.map fun b => [AV.v (.bool b)]⟩), (6, ⟨65, 1, [[.ref 5 0 L]]⟩), (10, ⟨3, 1, [[.v (.int .i64 (M : Int))]]⟩)], [10, 6, 5]⟩) (μ := fun i => L - i.1.1) ⟨(0, MM), Nat.zero_le _, hMM, Lib.hid fun j hj => by omega, Lib.hid fun j _ hj => hq.out j hj⟩ ?_ (fun ⟨⟨y, UU⟩, hy, hUU, hlo, hhi⟩ => ?_)
  ·(refine weak_id rfl ?_ ?_ <;> ((try simp only [List.mem_cons, List.not_mem_nil, or_false, forall_eq_or_imp, forall_eq]); (try simp (disch := omega) [i64w, *])))
  dsimp only at hy hUU hlo hhi
  dsimp only
  refine amStr (h := ?_)
  refine amReg PT146_ok (h := ?_)
  refine amStr (h := ?_)
  (focus ((with_reducible refine sp_cond (b := ?_) ?_ (fun hc => ?_) (fun hc => ?_)); rotate_left; (focus (first | rfl | (simp [lk, AS.ev]; rfl))); all_goals (try simp at hc)))
  ·have hyy := hc
   clear hc
   have hyU : y < UU.length := by omega
   have handn := andn_i64 (y := y) (b := b) (by omega) (by omega)
   rw [hM] at handn
   obtain ⟨Y, hYe⟩ : ∃ Y, (if y.testBit b = true then y ^^^ M else y) = Y := ⟨_, rfl⟩
   rw [hYe] at handn
   obtain ⟨hYy, hst⟩ := up_step (Y := Y) (by rw [hM]; exact hYe.symm) hlo.out hhi.out hyy
   have hst2 := Lib.hid hst
   have hYU : Y < UU.length := by omega
   have hYL : (Y : Int) < (L : Int) := by omega
   have hYN : Y < L := by omega
   have hwY : IntKind.i64.wrap (Y : Int) = (Y : Int) := i64w (by omega) (by omega)
   clear hYe hst
   clear hpow hk0 hwk hmin
   refine amStr (h := ?_)
   refine amReg PT146_ok (h := ?_)
   refine amStr (h := ?_)
   refine s_regionL ?_
   ((iterate 2 (((with_reducible refine spl_step TT_ok PT146_ok (id := 0) (σ' := ?_) ?_ ?_); rotate_left; (focus (simp [*]; rfl))))))
   refine spl_call TT_ok rfl rfl rfl (by kernel_rfl) Tryd.func73 rfl (avs := [.v (.int .i64 (y : Int))]) (cs := [.ptr 6 0 0, .ptr 10 0 0]) rfl rfl (by simp [Tryd.ntmps73]) fun B' hI' hro' => ?_
   rw [Tryd.ntmps73, Tryd.results73]
   simp only [enumA, List.cons_append, List.nil_append]
   cases hu : UU.getD y false
   ·refine amStr (h := ?_)
    refine amDrw PT146_ok (h := ?_)
    refine ⟨.inl rfl, .tup [], rfl, ?_⟩
    refine spl_nil ?_
    refine amStr (h := ?_)
    refine amReg PT146_ok (h := ?_)
    refine k_lp (⟨(y + 1, UU.set y (UU.getD Y false)), by omega, by simp [hUU], Lib.hid fun j hj => ?_, Lib.hid fun j hj1 hj2 => ?_⟩ : {q : Nat × List Bool // q.1 ≤ L ∧ q.2.length = L ∧ Hid (∀ j, j < q.1 → q.2.getD j false = upK (fun i => on.getD i false) x (b + 1) j) ∧ Hid (∀ j, q.1 ≤ j → j < L → q.2.getD j false = upK (fun i => on.getD i false) x b j)}) (by first | omega | (dsimp only; omega)) ?_
    ·by_cases e : j < y
     ·rw [getD_set_ne (by omega)]; exact hlo.out j e
     ·obtain rfl : j = y := by omega
      rw [getD_set_eq hyU, hst2.out, hu]; rfl
    ·rw [getD_set_ne (by omega)]; exact hhi.out j (by omega) hj2
    ·(refine weak_id rfl ?_ ?_ <;> ((try simp only [List.mem_cons, List.not_mem_nil, or_false, forall_eq_or_imp, forall_eq]); (try simp (disch := omega) [i64w, *])))
   ·refine amStr (h := ?_)
    refine amDrw PT146_ok (h := ?_)
    refine ⟨.inl rfl, .tup [], rfl, ?_⟩
    refine spl_nil ?_
    refine amStr (h := ?_)
    refine amReg PT146_ok (h := ?_)
    refine k_lp (⟨(y + 1, UU.set y true), by omega, by simp [hUU], Lib.hid fun j hj => ?_, Lib.hid fun j hj1 hj2 => ?_⟩ : {q : Nat × List Bool // q.1 ≤ L ∧ q.2.length = L ∧ Hid (∀ j, j < q.1 → q.2.getD j false = upK (fun i => on.getD i false) x (b + 1) j) ∧ Hid (∀ j, q.1 ≤ j → j < L → q.2.getD j false = upK (fun i => on.getD i false) x b j)}) (by first | omega | (dsimp only; omega)) ?_
    ·by_cases e : j < y
     ·rw [getD_set_ne (by omega)]; exact hlo.out j e
     ·obtain rfl : j = y := by omega
      rw [getD_set_eq hyU, hst2.out, hu]; rfl
    ·rw [getD_set_ne (by omega)]; exact hhi.out j (by omega) hj2
    ·(refine weak_id rfl ?_ ?_ <;> ((try simp only [List.mem_cons, List.not_mem_nil, or_false, forall_eq_or_imp, forall_eq]); (try simp (disch := omega) [i64w, *])))
  ·obtain rfl : L = y := by omega
   clear hc
   refine amStr (h := ?_)
   refine amReg PT146_ok (h := ?_)
   refine k_lp (⟨(b + 1, UU), by omega, hUU, Lib.hid fun j hj => hlo.out j hj⟩ : {p : Nat × List Bool // p.1 ≤ vs.length ∧ p.2.length = L ∧ Hid (∀ j, j < L → p.2.getD j false = upK (fun i => on.getD i false) x p.1 j)}) (by first | omega | (dsimp only; omega)) ?_
   (refine weak_id rfl ?_ ?_ <;> ((try simp only [List.mem_cons, List.not_mem_nil, or_false, forall_eq_or_imp, forall_eq]); (try simp (disch := omega) [i64w, *])))
 ·obtain rfl : b = vs.length := by omega
  clear hc
  have hfin : MM = chgL (fun i => on.getD i false) vs.length x := ext_getD false (by rw [hMM, chgL_len, hL]) fun i hi => by
   rw [chgL_len] at hi
   rw [chgL_get hi]; exact hq.out i (by rw [← hL]; exact hi)
  rw [← hfin]
  clear hfin
  refine amGo PT146_ok (h := ?_)
  (refine amRt Tryd.results44 (h := ?_); try simp [*])
  rw [← hMM, take_map_len]
  exact ⟨d_ids_bools MM, rfl⟩
theorem changes_p2 (N : Int) (vs : List Int) (on : List Bool) (x : Int) (hk : (okV vs && decide (on.length = 2 ^ vs.length) && decide (0 ≤ x) && decide (x < (on.length : Int))) = true) : FnPure Tryd.prog 44 [aTab N vs on, .v (.int .i64 x)] (aBools (chgL (fun i => on.getD i false) vs.length x.toNat)) := by
 simp only [Bool.and_eq_true, decide_eq_true_eq] at hk
 obtain ⟨⟨⟨h1, h2⟩, h3⟩, h4⟩ := hk
 have h := changes_p N vs on x.toNat h1 h2 (by omega)
 rw [Int.toNat_of_nonneg h3] at h
 exact h
@[simp] def g_tChg : List AV → Option (AV × Bool)
 | [.pt [.v (.int .i64 N), a0, b0], .v (.int .i64 x)] => (match toInts a0 with | some vs => (match toBools b0 with | some on => if (okI x && (okV vs && decide (on.length = 2 ^ vs.length) && decide (0 ≤ x) && decide (x < (on.length : Int)))) = true then some (aBools (chgL (fun i => on.getD i false) vs.length x.toNat), false) else none | none => none) | none => none)
 | _ => none
theorem e_tChg : EntOk Tryd.prog 44 g_tChg := ent_pure (by kernel_rfl) fun args r fr h => by
 unfold g_tChg at h
 split at h
 ·rename_i N a0 b0 x
  split at h
  ·rename_i vs t0
   split at h
   ·rename_i on s0
    split at h
    ·rename_i hc
     simp only [Bool.and_eq_true] at hc
     obtain ⟨o1, hk⟩ := hc
     cases h
     exact ⟨FnPure.cov (changes_p2 N vs on x (by simp only [Bool.and_eq_true]; exact hk)) (.cons (cov_tab _ t0 s0) (.cons (Cov.refl _) .nil)), rfl⟩
    ·cases h
   ·cases h
  ·cases h
 ·cases h

def l147 : List (FuncId × (List AV → Option (AV × Bool))) :=
 (44, g_tChg) :: l146
theorem l147_ok : ∀ p ∈ l147, EntOk Tryd.prog p.1 p.2 := ent_cons e_tChg (l146_ok)
def PT147 : PTab := tab l147
theorem PT147_ok : PTok Tryd.prog PT147 := tab_ok l147_ok
@[simp] theorem PT147_tChg : PT147 44 = g_tChg := rfl
@[simp] theorem PT147_old (f : FuncId) (h : decide (f ≠ 44) = true) : PT147 f = PT146 f := tab_old (of_decide_eq_true h)
end Go.Proofs.YtecdhmiamlgibaaDoor
/- Td39: Which tables are made; no condition. -/
namespace Go.Proofs.YtecdhmiamlgibaaDoor
set_option linter.unusedVariables false
set_option linter.unusedSimpArgs false
set_option linter.unusedSectionVars false
open Go.RowKit
set_option maxRecDepth 100000
@[simp] def g_vList : List AV → Option (AV × Bool)
 | [a0] => (match toSet a0 with | some s => if (true) = true then some (aInts (listS s), false) else none | none => none)
 | _ => none
theorem e_vList : EntOk Tryd.prog 92 g_vList := ent_pure (by kernel_rfl) fun args r fr h => by
 unfold g_vList at h
 split at h
 ·rename_i a0
  split at h
  ·rename_i s t0
   split at h
   ·rename_i hc
    cases h
    exact ⟨FnPure.cov (vList_p s) (.cons (toSet_inv t0 ▸ Cov.refl _) .nil), rfl⟩
   ·cases h
  ·cases h
 ·cases h

def l148 : List (FuncId × (List AV → Option (AV × Bool))) :=
 (92, g_vList) :: l147
theorem l148_ok : ∀ p ∈ l148, EntOk Tryd.prog p.1 p.2 := ent_cons e_vList (l147_ok)
def PT148 : PTab := tab l148
theorem PT148_ok : PTok Tryd.prog PT148 := tab_ok l148_ok
@[simp] theorem PT148_vList : PT148 92 = g_vList := rfl
@[simp] theorem PT148_old (f : FuncId) (h : decide (f ≠ 92) = true) : PT148 f = PT147 f := tab_old (of_decide_eq_true h)
end Go.Proofs.YtecdhmiamlgibaaDoor
/- Mp39: The map of the words of the variables, as entries; no condition. -/
namespace Go.Proofs.YtecdhmiamlgibaaDoor
set_option linter.unusedVariables false
set_option linter.unusedSimpArgs false
set_option linter.unusedSectionVars false
open Go.RowKit
set_option maxRecDepth 100000
abbrev En := Int × BitVec 64
def findE : List En → Int → Nat → Option Nat
 | [], _, _ => none
 | p :: r, u, i => if u = p.1 then some i else findE r u (i + 1)
def lookE : List En → Int → BitVec 64
 | [], _ => 0#64
 | p :: r, u => if u = p.1 then p.2 else lookE r u
@[simp] theorem findA_en (u : Int) : ∀ (es : List En) (i : Nat), findA (.int .i64) (.int .i64 u) (es.map fun p => [AV.v (.int .i64 p.1), .v (.int .u64 (p.2.toNat : Int))]) i = some (findE es u i)
 | [], i => rfl
 | p :: r, i => by
  rw [List.map_cons, findA, findE]
  by_cases h : u = p.1
  ·have : Instr.sameNow (.int .i64) (.int .i64 u) (.int .i64 p.1) = some true := by simp [Instr.sameNow, h]
   rw [this, if_pos h]
  ·have : Instr.sameNow (.int .i64) (.int .i64 u) (.int .i64 p.1) = some false := by simp [Instr.sameNow, h]
   rw [this, if_neg h]
   exact findA_en u r (i + 1)
theorem findE_none : ∀ {es : List En} {u : Int} {i : Nat}, (∀ p ∈ es, p.1 ≠ u) → findE es u i = none
 | [], _, _, _ => rfl
 | p :: r, u, i, h => by
  rw [findE, if_neg (fun e => h p (by simp) e.symm)]
  exact findE_none fun q hq => h q (by simp [hq])
theorem find_look : ∀ (es : List En) (u : Int) (i : Nat), (findE es u i = none → lookE es u = 0#64) ∧ ∀ j, findE es u i = some j → i ≤ j ∧ j - i < es.length ∧ lookE es u = (es.getD (j - i) (0, 0#64)).2
 | [], u, i => ⟨fun _ => rfl, fun j h => by cases h⟩
 | p :: r, u, i => by
  obtain ⟨h1, h2⟩ := find_look r u (i + 1)
  rw [findE, lookE]
  by_cases h : u = p.1
  ·rw [if_pos h, if_pos h]
   refine ⟨fun h => (nomatch h), fun j hj => ?_⟩
   cases hj
   exact ⟨Nat.le_refl _, by simp, by simp⟩
  ·rw [if_neg h, if_neg h]
   refine ⟨h1, fun j hj => ?_⟩
   obtain ⟨g1, g2, g3⟩ := h2 j hj
   refine ⟨by omega, by rw [List.length_cons]; omega, ?_⟩
   rw [g3, show j - i = (j - (i + 1)) + 1 by omega]; simp
@[simp] theorem en_get {l : List En} {k : Nat} (h : k < l.length) : (l.map fun p => [AV.v (.int .i64 p.1), .v (.int .u64 (p.2.toNat : Int))]).getD k [] = [.v (.int .i64 (l.getD k (0, 0#64)).1), .v (.int .u64 ((l.getD k (0, 0#64)).2.toNat : Int))] := by
 simp [List.getD, h]
theorem foundR_en (es : List En) (u : Int) : foundR false (es.map fun p => [AV.v (.int .i64 p.1), .v (.int .u64 (p.2.toNat : Int))]) (.int .u64 0) (findE es u 0) = .v (.int .u64 ((lookE es u).toNat : Int)) := by
 obtain ⟨h1, h2⟩ := find_look es u 0
 cases hf : findE es u 0 with
 | none => rw [h1 hf]; rfl
 | some j =>
  obtain ⟨_, g2, g3⟩ := h2 j hf
  rw [Nat.sub_zero] at g2 g3
  rw [g3]
  unfold foundR
  simp [List.getD, g2, lookR]
def entL (vs : List Int) (frm : Nat) : Nat → List En
 | 0 => []
 | k + 1 => if k < 6 then entL vs frm k ++ [(vs.getD k 0, maskW k)] else if frm.testBit k = true then entL vs frm k ++ [(vs.getD k 0, BitVec.allOnes 64)] else entL vs frm k
theorem ent_keys (vs : List Int) (frm : Nat) : ∀ k, ∀ p ∈ entL vs frm k, ∃ j, j < k ∧ p.1 = vs.getD j 0
 | 0, p, h => by cases h
 | k + 1, p, h => by
  have ih := ent_keys vs frm k
  rw [entL] at h
  split at h
  ·rcases List.mem_append.1 h with h | h
   ·obtain ⟨j, h1, h2⟩ := ih p h; exact ⟨j, by omega, h2⟩
   ·rw [List.mem_singleton] at h; exact ⟨k, by omega, by rw [h]⟩
  ·split at h
   ·rcases List.mem_append.1 h with h | h
    ·obtain ⟨j, h1, h2⟩ := ih p h; exact ⟨j, by omega, h2⟩
    ·rw [List.mem_singleton] at h; exact ⟨k, by omega, by rw [h]⟩
   ·obtain ⟨j, h1, h2⟩ := ih p h; exact ⟨j, by omega, h2⟩
theorem nodup_get {vs : List Int} (h : vs.Nodup) {i j : Nat} (hi : i < vs.length) (hj : j < vs.length) (e : vs.getD i 0 = vs.getD j 0) : i = j := by
 have h1 := posV_get h hi
 have h2 := posV_get h hj
 rw [e, h2] at h1
 exact (Option.some.inj h1).symm
theorem ent_new {vs : List Int} (h : okVs vs) (frm : Nat) {k : Nat} (hk : k < vs.length) : ∀ p ∈ entL vs frm k, p.1 ≠ vs.getD k 0 := fun p hp e => by
 obtain ⟨j, h1, h2⟩ := ent_keys vs frm k p hp
 have := nodup_get h.1 (by omega) hk (h2.symm.trans e)
 omega
theorem ent_len (vs : List Int) (frm : Nat) : ∀ k, (entL vs frm k).length ≤ k
 | 0 => Nat.le_refl _
 | k + 1 => by
  have := ent_len vs frm k
  rw [entL]
  split
  ·rw [List.length_append, List.length_singleton]; omega
  ·split
   ·rw [List.length_append, List.length_singleton]; omega
   ·omega
theorem look_snoc {v : Int} {w : BitVec 64} (u : Int) : ∀ {es : List En}, (∀ p ∈ es, p.1 ≠ v) → lookE (es ++ [(v, w)]) u = if u = v then w else lookE es u
 | [], _ => by simp [lookE]
 | p :: r, h => by
  rw [List.cons_append, lookE, lookE, look_snoc u fun q hq => h q (by simp [hq])]
  have := h p (by simp)
  by_cases e : u = p.1
  ·rw [if_pos e, if_neg (by rw [e]; exact this), if_pos e]
  ·rw [if_neg e, if_neg e]
theorem look_none {v : Int} : ∀ {es : List En}, (∀ p ∈ es, p.1 ≠ v) → lookE es v = 0#64
 | [], _ => rfl
 | p :: r, h => by
  rw [lookE, if_neg (fun e => h p (by simp) e.symm)]
  exact look_none fun q hq => h q (by simp [hq])
theorem look_step {vs : List Int} (h : okVs vs) (frm : Nat) {k : Nat} (hk : k < vs.length) (u : Int) : lookE (entL vs frm (k + 1)) u = if u = vs.getD k 0 then wordP k frm else lookE (entL vs frm k) u := by
 have hn := ent_new h frm hk
 rw [entL]
 unfold wordP
 split
 ·exact look_snoc u hn
 ·split
  ·exact look_snoc u hn
  ·split
   ·rename_i e; rw [e]; exact look_none hn
   ·rfl
theorem look_ent {vs : List Int} (h : okVs vs) (frm : Nat) (u : Int) : ∀ k, k ≤ vs.length → lookE (entL vs frm k) u = match posV vs u with
  | some p => if p < k then wordP p frm else 0#64
  | none => 0#64
 | 0, _ => by
  cases posV vs u with
  | none => rfl
  | some p => rfl
 | k + 1, hk => by
  rw [look_step h frm hk u, look_ent h frm u k (by omega)]
  by_cases e : u = vs.getD k 0
  ·rw [if_pos e, e, posV_get h.1 hk]
   show _ = if k < k + 1 then _ else _
   rw [if_pos (by omega)]
  ·rw [if_neg e]
   cases hp : posV vs u with
   | none => rfl
   | some p =>
    show (if p < k then _ else _) = if p < k + 1 then _ else _
    by_cases hpk : p < k
    ·rw [if_pos hpk, if_pos (by omega)]
    ·rw [if_neg hpk, if_neg]
     intro h2
     obtain rfl : p = k := by omega
     by_cases hu : u ∈ vs
     ·obtain ⟨q, g1, _, g3⟩ := posV_some hu
      rw [hp] at g1
      cases g1
      exact e g3.symm
     ·rw [posV_none hu] at hp; cases hp
theorem look_of {vs : List Int} (h : okVs vs) (frm : Nat) (u : Int) : lookE (entL vs frm vs.length) u = ofW vs frm u := by
 rw [look_ent h frm u _ (Nat.le_refl _)]
 unfold ofW
 cases hp : posV vs u with
 | none => rfl
 | some p =>
  by_cases hu : u ∈ vs
  ·obtain ⟨q, g1, g2, _⟩ := posV_some hu
   rw [hp] at g1
   cases g1
   show (if p < vs.length then _ else _) = _
   rw [if_pos g2]
  ·rw [posV_none hu] at hp; cases hp
@[simp ↓ high] theorem d_ids_en (es : List En) : idsLL (es.map fun p => [AV.v (.int .i64 p.1), .v (.int .u64 (p.2.toNat : Int))]) = [] := by
 induction es with
 | nil => rfl
 | cons p r ih => simp [idsLL, idsL, AV.ids, ih]
@[simp ↓ high] theorem d_ren_en (ρ : Nat → Nat) (es : List En) : renLL ρ (es.map fun p => [AV.v (.int .i64 p.1), .v (.int .u64 (p.2.toNat : Int))]) = es.map fun p => [AV.v (.int .i64 p.1), .v (.int .u64 (p.2.toNat : Int))] := renLL_pure ρ _ (d_ids_en es)
def aWords (l : List (BitVec 64)) : List (List AV) := l.map fun w => [AV.v (.int .u64 (w.toNat : Int))]
@[simp ↓ high] theorem d_ids_words (l : List (BitVec 64)) : idsLL (l.map fun w => [AV.v (.int .u64 (w.toNat : Int))]) = [] := by
 induction l with
 | nil => rfl
 | cons p r ih => simp [idsLL, idsL, AV.ids, ih]
@[simp ↓ high] theorem d_ren_words (ρ : Nat → Nat) (l : List (BitVec 64)) : renLL ρ (l.map fun w => [AV.v (.int .u64 (w.toNat : Int))]) = l.map fun w => [AV.v (.int .u64 (w.toNat : Int))] := renLL_pure ρ _ (d_ids_words l)
@[simp] theorem words_get {l : List (BitVec 64)} {k : Nat} (h : k < l.length) : (l.map fun w => [AV.v (.int .u64 (w.toNat : Int))]).getD k [] = [.v (.int .u64 ((l.getD k 0#64).toNat : Int))] := by
 simp [List.getD, h]
end Go.Proofs.YtecdhmiamlgibaaDoor
