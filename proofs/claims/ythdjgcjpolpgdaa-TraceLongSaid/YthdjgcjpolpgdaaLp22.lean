/- TraceLong: what is written of the great lists (plain); no condition. -/
import Derived.Test.YthdjgcjpolpgdaaLl22
namespace Go.Proofs.Ythdjgcjpolpgdaa
set_option linter.unusedVariables false
set_option linter.unusedSimpArgs false
set_option linter.unusedSectionVars false
open Go.RowKit
set_option maxRecDepth 100000
def nilL (n : Nat) : List Cl := List.replicate n ([], [])
def allA (k : Nat) : List Int := (List.range k).map fun i : Nat => (i : Int)
theorem allA_succ (k : Nat) : allA (k + 1) = allA k ++ [(k : Int)] := by unfold allA; rw [List.range_succ, List.map_append]; rfl
theorem allA_len (k : Nat) : (allA k).length = k := by unfold allA; simp
theorem allA_get {k i : Nat} (h : i < k) : (allA k).getD i 0 = (i : Int) := by unfold allA; simp [List.getD, h]
theorem clB_nil : clB ([], []) = [0, 0] := by
  unfold clB tB cB
  simp [numB_lt]
theorem flat_rep (c : Cl) (n : Nat) : ((List.replicate n c).flatMap clB).length = n * (clB c).length := by
  induction n with
  | zero => simp
  | succ n ih => rw [List.replicate_succ, List.flatMap_cons, List.length_append, ih, Nat.succ_mul, Nat.add_comm]
theorem num_65536 : (numB 65536).length = 3 := by
  rw [numB_ge (by decide), numB_ge (by decide), numB_lt (by decide)]; rfl
theorem nil_all (n : Nat) : (nilL n).all clG = true := by
  rw [List.all_eq_true]
  intro c hc
  rw [(List.mem_replicate.1 hc).2]; decide
theorem okCl_rep {n : Nat} {c : Cl} (hn : n ≤ 100000) (h1 : okInts c.1 = true) (h2 : okInts c.2 = true) : okCl (List.replicate n c) = true := by
  unfold okCl
  rw [Bool.and_eq_true, decide_eq_true_eq, List.all_eq_true]
  refine ⟨by rw [List.length_replicate]; exact hn, fun p hp => ?_⟩
  rw [(List.mem_replicate.1 hp).2, h1, h2]; rfl
theorem nil_len {n : Nat} (hn : (n : Int) = 65536) : (fullB (nilL n)).length = 131075 := by
  obtain rfl : n = 65536 := by omega
  unfold fullB nilL
  rw [List.length_append, flat_rep, List.length_replicate, num_65536, clB_nil]
  decide
theorem enc_nil {n : Nat} (hn : (n : Int) = 65536) : encF (nilL n) = .tup [aB (fullB (nilL n)), .v (.int .i64 0)] := by
  have h1 := nil_len hn
  unfold encF
  rw [if_neg (by unfold nilL; rw [List.length_replicate]; omega), if_neg (by rw [nil_all]; decide), if_neg (by rw [h1]; decide)]
theorem enc_nil1 {n : Nat} (hn : (n : Int) = 65536) : encF (nilL (n + 1)) = .tup [.v (.slice none 0 0), .v (.int .i64 2)] := by
  unfold encF
  rw [if_pos (by unfold nilL; rw [List.length_replicate]; omega)]
theorem dec_nil {n : Nat} (hn : (n : Int) = 65536) : decA (fullB (nilL n)) = .tup [aCls (nilL n), .v (.int .i64 0)] := by
  have h1 := nil_len hn
  have h2 := rdC_rt (nil_all n) (by unfold nilL; rw [List.length_replicate]; omega)
  unfold decA
  rw [if_neg (by rw [h1]; decide), h2]
  rfl
theorem dec_big {b : List Int} (h : maxB < b.length) : decA b = .tup [.v (.slice none 0 0), .v (.int .i64 2)] := by
  unfold decA; rw [if_pos h]
theorem okInts_all : okInts (allA 4096) = true := by
  unfold okInts
  rw [Bool.and_eq_true, decide_eq_true_eq, allA_len]
  refine ⟨List.all_eq_true.2 fun x hx => ?_, by decide⟩
  unfold allA at hx
  obtain ⟨i, hi, rfl⟩ := List.mem_map.1 hx
  have := List.mem_range.1 hi
  exact okI_iff.2 ⟨by omega, by omega⟩
theorem all_good : clG ([], allA 4096) = true := by
  unfold clG goodB
  rw [Bool.and_eq_true]
  refine ⟨rfl, all_range fun j hj => ?_⟩
  rw [allA_len] at hj
  unfold ixAsc lastK
  rw [allA_get hj, Bool.and_eq_true, decide_eq_true_eq, decide_eq_true_eq]
  refine ⟨?_, by omega⟩
  split
  · omega
  · rw [allA_get (by omega)]; omega
theorem flat_ge {α : Type} (f : α → List Int) : ∀ (l : List α), (∀ x ∈ l, 1 ≤ (f x).length) → l.length ≤ (l.flatMap f).length
  | [], _ => Nat.zero_le _
  | x :: r, h => by
    have h1 := h x (by simp)
    have h2 := flat_ge f r fun y hy => h y (by simp [hy])
    rw [List.flatMap_cons, List.length_append, List.length_cons]; omega
theorem clB_ge (A : List Int) : A.length ≤ (clB ([], A)).length := by
  unfold clB cB
  have h := flat_ge (difB A) (List.range A.length) (fun k _ => numB_pos _)
  rw [List.length_range] at h
  rw [List.length_append, List.length_append]
  show A.length ≤ _ + (_ + ((List.range A.length).flatMap (difB A)).length)
  omega
theorem enc_full {m : Nat} (hm : (m : Int) = 5000) : encF (List.replicate m ([], allA 4096)) = .tup [.v (.slice none 0 0), .v (.int .i64 2)] := by
  obtain rfl : m = 5000 := by omega
  have h1 : (List.replicate 5000 (([], allA 4096) : Cl)).length = 5000 := List.length_replicate ..
  have h2 : (List.replicate 5000 (([], allA 4096) : Cl)).all clG = true := by
    rw [List.all_eq_true]
    intro c hc
    rw [(List.mem_replicate.1 hc).2]; exact all_good
  have h3 : maxB < (fullB (List.replicate 5000 (([], allA 4096) : Cl))).length := by
    unfold fullB
    rw [List.length_append, flat_rep]
    have := clB_ge (allA 4096)
    rw [allA_len] at this
    have h4 := Nat.mul_le_mul_left 5000 this
    have : maxB = 16777216 := rfl
    omega
  unfold encF
  rw [if_neg (by rw [h1]; decide), if_neg (by rw [h2]; decide), if_pos h3]
def badL (m : Nat) : List Cl := (List.replicate m ([], allA 4096)).set 4999 ([], [4096])
theorem enc_bad {m : Nat} (hm : (m : Int) = 5000) : encF (badL m) = .tup [.v (.slice none 0 0), .v (.int .i64 1)] := by
  have h1 : (badL m).length = m := by unfold badL; rw [List.length_set, List.length_replicate]
  have h2 : (badL m).all clG = false := by
    rw [List.all_eq_false]
    refine ⟨([], [4096]), ?_, by decide⟩
    unfold badL
    rw [List.mem_iff_getElem]
    exact ⟨4999, by rw [List.length_set, List.length_replicate]; omega, by simp⟩
  unfold encF
  rw [if_neg (by omega), if_pos h2]
theorem okCl_bad {m : Nat} (hm : (m : Int) = 5000) : okCl (badL m) = true := by
  unfold okCl badL
  rw [Bool.and_eq_true, decide_eq_true_eq, List.all_eq_true]
  refine ⟨by rw [List.length_set, List.length_replicate]; omega, fun p hp => ?_⟩
  rcases List.mem_or_eq_of_mem_set hp with h | h
  · rw [(List.mem_replicate.1 h).2]; simp [okInts_all]
  · rw [h]; decide
theorem clsOf_rep {a b : AV} {x y : List Int} (h1 : toInts a = some x) (h2 : toInts b = some y) : ∀ n, clsOf (List.replicate n [a, b]) = some (List.replicate n (x, y))
  | 0 => rfl
  | n + 1 => by rw [List.replicate_succ, List.replicate_succ]; simp only [clsOf, h1, h2, clsOf_rep h1 h2 n]
theorem clsOf_app {b c : AV} {x y : List Int} (h1 : toInts b = some x) (h2 : toInts c = some y) : ∀ {ys : List (List AV)} {l : List Cl}, clsOf ys = some l → clsOf (ys ++ [[b, c]]) = some (l ++ [(x, y)])
  | [], l, h => by
    simp only [clsOf, Option.some.injEq] at h
    subst h
    simp only [List.nil_append, clsOf, h1, h2]
  | [] :: r, l, h => by simp [clsOf] at h
  | [_] :: r, l, h => by simp [clsOf] at h
  | (_ :: _ :: _ :: _) :: r, l, h => by simp [clsOf] at h
  | [p, q] :: r, l, h => by
    simp only [clsOf] at h
    split at h
    · rename_i x2 y2 l2 g1 g2 g3
      cases h
      simp only [List.cons_append, clsOf, g1, g2, clsOf_app h1 h2 g3]
    · cases h
theorem clsOf_set {b c : AV} {x y : List Int} (h1 : toInts b = some x) (h2 : toInts c = some y) : ∀ {ys : List (List AV)} {l : List Cl} (i : Nat), clsOf ys = some l → clsOf (ys.set i [b, c]) = some (l.set i (x, y))
  | [], l, i, h => by
    simp only [clsOf, Option.some.injEq] at h
    subst h; rfl
  | [] :: r, l, i, h => by simp [clsOf] at h
  | [_] :: r, l, i, h => by simp [clsOf] at h
  | (_ :: _ :: _ :: _) :: r, l, i, h => by simp [clsOf] at h
  | [p, q] :: r, l, i, h => by
    simp only [clsOf] at h
    split at h
    · rename_i x2 y2 l2 g1 g2 g3
      cases h
      cases i with
      | zero => simp only [List.set_cons_zero, clsOf, h1, h2, g3]
      | succ i => simp only [List.set_cons_succ, clsOf, g1, g2, clsOf_set h1 h2 i g3]
    · cases h
def fR (A : List Int) (m k : Nat) : List (List AV) := List.replicate k [.v (.slice none 0 0), aInts A] ++ List.replicate (m - k) [.v (.slice none 0 0), .v (.slice none 0 0)]
theorem fR_len (A : List Int) {m k : Nat} (h : k ≤ m) : (fR A m k).length = m := by unfold fR; simp; omega
theorem fR_get (A : List Int) {m k : Nat} (h : k < m) : (fR A m k).getD k [] = [.v (.slice none 0 0), .v (.slice none 0 0)] := by
  unfold fR
  obtain ⟨d, hd⟩ : ∃ d, m - k = d + 1 := ⟨m - k - 1, by omega⟩
  rw [hd]
  simp [List.getD, List.getElem?_append, h]
theorem fR_set (A : List Int) {m k : Nat} (h : k < m) : (fR A m k).set k [.v (.slice none 0 0), aInts A] = fR A m (k + 1) := by
  unfold fR
  obtain ⟨d, hd⟩ : ∃ d, m - k = d + 1 := ⟨m - k - 1, by omega⟩
  rw [List.set_append_right _ _ (by simp), hd, List.replicate_succ, List.length_replicate, Nat.sub_self, List.set_cons_zero, List.replicate_succ', show m - (k + 1) = d by omega]
  simp
theorem fR_all (A : List Int) (m : Nat) : fR A m m = List.replicate m [.v (.slice none 0 0), aInts A] := by unfold fR; rw [Nat.sub_self]; simp
theorem fR_zero (A : List Int) (m : Nat) : fR A m 0 = List.replicate m [.v (.slice none 0 0), .v (.slice none 0 0)] := by unfold fR; simp
theorem ids_app : ∀ (a b : List (List AV)), idsLL (a ++ b) = idsLL a ++ idsLL b
  | [], b => rfl
  | x :: r, b => by simp [idsLL, ids_app r b]
theorem ids_repl {r : List AV} (h : idsL r = []) : ∀ n, idsLL (List.replicate n r) = []
  | 0 => rfl
  | n + 1 => by rw [List.replicate_succ]; simp [idsLL, h, ids_repl h n]
theorem ids_fR (A : List Int) (m k : Nat) : idsLL (fR A m k) = [] := by
  unfold fR
  rw [ids_app, ids_repl (by simp [idsL, AV.ids]), ids_repl (by simp [idsL, AV.ids])]; rfl
end Go.Proofs.Ythdjgcjpolpgdaa
