/- explain.Necessary; no condition. -/
import Derived.Test.YtecdhmiamlgibaaDoorRx39
import Derived.Test.YtecdhmiamlgibaaDoorWl
namespace Go.Proofs.YtecdhmiamlgibaaDoor
set_option linter.unusedVariables false
set_option linter.unusedSimpArgs false
set_option linter.unusedSectionVars false
open Go.RowKit
open Wlk
attribute [-simp] List.getD_eq_getElem?_getD
set_option maxRecDepth 100000
attribute [local simp] aBools
def neeN (f : Nat → Bool) (x : Nat) : Nat → Nat
 | 0 => 0
 | k + 1 => if (f (x ^^^ 2 ^ k) != f x) = true then neeN f x k ||| 2 ^ k else neeN f x k
theorem neeN_lt (f : Nat → Bool) (x : Nat) : ∀ k, neeN f x k < 2 ^ k
 | 0 => Nat.one_pos
 | k + 1 => by
  have ih := neeN_lt f x k
  have h2 : 2 ^ k < 2 ^ (k + 1) := Nat.pow_lt_pow_right (by omega) (by omega)
  unfold neeN
  split
  ·exact Nat.or_lt_two_pow (by omega) h2
  ·omega
theorem neeN_bit (f : Nat → Bool) (x : Nat) : ∀ k p, (neeN f x k).testBit p = (decide (p < k) && (f (x ^^^ 2 ^ p) != f x))
 | 0, p => by simp [neeN]
 | k + 1, p => by
  have ih := neeN_bit f x k p
  unfold neeN
  by_cases e : k = p
  ·subst e
   have h0 : (neeN f x k).testBit k = false := Nat.testBit_lt_two_pow (neeN_lt f x k)
   split
   ·rename_i h; rw [Nat.testBit_or, Nat.testBit_two_pow, decide_eq_true rfl, Bool.or_true, h, decide_eq_true (by omega)]; rfl
   ·rename_i h; rw [h0]; rw [Bool.not_eq_true] at h; rw [h, Bool.and_false]
  ·have hp : decide (p < k + 1) = decide (p < k) := by rw [decide_eq_decide]; omega
   rw [hp, ← ih]
   split
   ·rw [Nat.testBit_or, Nat.testBit_two_pow, decide_eq_false e, Bool.or_false]
   ·rfl
def neeA (N : Int) (ns : List Nd) (a : BitVec 128) : AV :=
 if (validN N ns && subB a N) = false then .tup [.v (.slice none 0 0), .v (.int .i64 1)]
 else if 16 < (matL ns).length then .tup [.v (.slice none 0 0), .v (.int .i64 2)]
 else .tup [aInts (termL (matL ns) (idxN (matL ns) a) (neeN (tabF ns) (idxN (matL ns) a) (matL ns).length)), .v (.int .i64 0)]
set_option maxHeartbeats 16000000 in
theorem nec_ok (N : Int) (ns : List Nd) (a : BitVec 128) (hN : okI N = true) (h : okNs ns = true) (hv : (validN N ns && subB a N) = true) (h16 : (matL ns).length ≤ 16) : FnPure Tryd.prog 16 [aNet N ns, aSet a] (.tup [aInts (termL (matL ns) (idxN (matL ns) a) (neeN (tabF ns) (idxN (matL ns) a) (matL ns).length)), .v (.int .i64 0)]) := by
 have he : openR N ns a = .tup [.pt [.v (.int .i64 N), aInts (matL ns), aBools (onL (matL ns) ns)], .v (.int .i64 (idxN (matL ns) a : Int)), .v (.int .i64 0)] := by unfold openR; rw [if_neg (by rw [hv]; decide), if_neg (by omega)]; rfl
 have hok := matL_ok h16
 have hon := onL_len (matL ns) ns
 have hi := idxN_lt (matL ns) a
 have hfe : ∀ i, tabF ns i = (onL (matL ns) ns).getD i false := fun _ => rfl
 generalize tabF ns = f at hfe ⊢
 generalize matL ns = vs at he hok hon hi h16 hfe ⊢
 generalize onL vs ns = on at he hon hi hfe ⊢
 obtain ⟨x, hx⟩ : ∃ x, idxN vs a = x := ⟨_, rfl⟩
 rw [hx] at hi he ⊢
 clear hx
 have HF := Lib.hid hfe
 clear hfe
 obtain ⟨hvo, _⟩ := okV_vs hok
 have hp2 : 2 ^ vs.length ≤ 65536 := Nat.pow_le_pow_right (n := 2) (by omega) h16
 obtain ⟨L, hL⟩ : ∃ L, 2 ^ vs.length = L := ⟨_, rfl⟩
 rw [hL] at hi hon hp2
 have HL := Lib.hid hL
 clear hL
 have hox : okI (x : Int) = true := okI_iff.2 ⟨by omega, by omega⟩
 have hx2 : (x : Int) ≤ 65535 := by omega
 have hxo : x < on.length := by omega
 have hxi : (x : Int) < (L : Int) := by omega
 unfold aNet aNds aSet WV
 refine fn_sp TT_ok Tryd.func16 (c := _) rfl (by simp [Tryd.ntmps16]) (fun B hI0 hro => ?_)
 rw [Tryd.ntmps16]
 simp only [enumA]
 refine amStr (h := ?_)
 refine amReg PT153_ok (h := ?_)
 refine amStr (h := ?_)
 refine amReg PT153_ok (h := ?_)
 refine amStr (h := ?_)
 refine amReg PT153_ok (h := ?_)
 refine amStr (h := ?_)
 refine amReg PT153_ok (h := ?_)
 refine amStr (h := ?_)
 refine amReg PT153_ok (h := ?_)
 refine amStr (h := ?_)
 refine s_loop (J := fun i : {k : Nat // k ≤ vs.length} => ⟨58, [(6, .pt [.v (.int .i64 N), aInts vs, .sl 1 (on.map fun b => [AV.v (.bool b)])]), (7, .v (.int .i64 (x : Int))), (9, .v (.int .i64 (neeN f x i.1 : Int))), (25, .v (.int .i64 (vs.length : Int))), (26, .v (.int .i64 (i.1 : Int)))], [], []⟩) (μ := fun i => vs.length - i.1) ⟨0, Nat.zero_le _⟩ ?_ (fun ⟨k, hk⟩ => ?_)
 ·have h0 : neeN f x 0 = 0 := rfl
  (refine weak_id rfl ?_ ?_ <;> ((try simp only [List.mem_cons, List.not_mem_nil, or_false, forall_eq_or_imp, forall_eq]); (try simp (disch := omega) [i64w, *])))
 refine amStr (h := ?_)
 refine amReg PT153_ok (h := ?_)
 refine amStr (h := ?_)
 (focus ((with_reducible refine sp_cond (b := ?_) ?_ (fun hc => ?_) (fun hc => ?_)); rotate_left; (focus (first | rfl | (simp [lk, AS.ev]; rfl))); all_goals (try simp at hc)))
 ·have hkk := hc
  clear hc
  have hwk : IntKind.u64.wrap (k : Int) = (k : Int) := u64w (by omega) (by omega)
  have hk0 : ¬ ((k : Int) < 0) := by omega
  have hmin : min k IntKind.i64.bits = k := by rw [bits_i64]; omega
  have hlt := neeN_lt f x k
  have hpk : 2 ^ k ≤ 2 ^ vs.length := Nat.pow_le_pow_right (by omega) hk
  have hpk2 : 2 ^ k < 2 ^ vs.length := Nat.pow_lt_pow_right (by omega) hkk
  have hxk : x ^^^ 2 ^ k < 2 ^ vs.length := Nat.xor_lt_two_pow (by rw [HL.out]; exact hi) hpk2
  have hok2 : neeN f x k ||| 2 ^ k < 2 ^ vs.length := Nat.or_lt_two_pow (by omega) hpk2
  have hs : neeN f x (k + 1) = if (f (x ^^^ 2 ^ k) != f x) = true then neeN f x k ||| 2 ^ k else neeN f x k := rfl
  rw [HF.out, HF.out] at hs
  rw [HL.out] at hpk hpk2 hxk hok2
  have hMp := Nat.two_pow_pos k
  obtain ⟨M, hM⟩ : ∃ M : Nat, 2 ^ k = M := ⟨_, rfl⟩
  have hpow : IntKind.i64.wrap (2 ^ k) = (M : Int) := by
   have e : ((2 : Int) ^ k) = (M : Int) := by rw [← hM]; simp
   rw [e]; exact i64w (by omega) (by omega)
  rw [hM] at hlt hpk hpk2 hxk hok2 hs hMp
  clear hM
  obtain ⟨P, hP⟩ : ∃ P, neeN f x k = P := ⟨_, rfl⟩
  rw [hP] at hlt hok2 hs
  rw [hP]
  clear hP
  have hxor := xor_i64 (a := x) (b := M) (by omega) (by omega)
  have hor := or_i64 (a := P) (b := M) (by omega) (by omega)
  obtain ⟨Z, hZ⟩ : ∃ Z, x ^^^ M = Z := ⟨_, rfl⟩
  rw [hZ] at hxk hs hxor
  clear hZ
  obtain ⟨D, hD⟩ : ∃ D, P ||| M = D := ⟨_, rfl⟩
  rw [hD] at hok2 hs hor
  clear hD
  have hZo : Z < on.length := by omega
  have hZi : (Z : Int) < (L : Int) := by omega
  have hwZ : IntKind.i64.wrap (Z : Int) = (Z : Int) := i64w (by omega) (by omega)
  have hwD : IntKind.i64.wrap (D : Int) = (D : Int) := i64w (by omega) (by omega)
  refine amStr (h := ?_)
  refine amReg PT153_ok (h := ?_)
  refine amStr (h := ?_)
  refine amDrw PT153_ok (h := ?_)
  refine amStr (h := ?_)
  (focus ((with_reducible refine sp_cond (b := ?_) ?_ (fun hc => ?_) (fun hc => ?_)); rotate_left; (focus (first | rfl | (simp [lk, AS.ev]; rfl))); all_goals (try simp at hc)))
  ·rw [if_pos (by simpa using hc)] at hs
   clear hc
   refine amStr (h := ?_)
   refine amReg PT153_ok (h := ?_)
   refine amStr (h := ?_)
   refine amReg PT153_ok (h := ?_)
   refine k_lp (⟨k + 1, by omega⟩ : {k : Nat // k ≤ vs.length}) (by first | omega | (dsimp only; omega)) ?_
   (refine weak_id rfl ?_ ?_ <;> ((try simp only [List.mem_cons, List.not_mem_nil, or_false, forall_eq_or_imp, forall_eq]); (try simp (disch := omega) [i64w, *])))
  ·rw [if_neg (by simpa using hc)] at hs
   clear hc
   refine amStr (h := ?_)
   refine amReg PT153_ok (h := ?_)
   refine k_lp (⟨k + 1, by omega⟩ : {k : Nat // k ≤ vs.length}) (by first | omega | (dsimp only; omega)) ?_
   (refine weak_id rfl ?_ ?_ <;> ((try simp only [List.mem_cons, List.not_mem_nil, or_false, forall_eq_or_imp, forall_eq]); (try simp (disch := omega) [i64w, *])))
 ·obtain rfl : k = vs.length := by omega
  clear hc
  have hlt := neeN_lt f x vs.length
  rw [HL.out] at hlt
  have hP5 : (neeN f x vs.length : Int) ≤ 65535 := by omega
  have hoP : okI (neeN f x vs.length : Int) = true := okI_iff.2 ⟨by omega, by omega⟩
  generalize neeN f x vs.length = P at hP5 hoP ⊢
  clear hlt
  refine amStr (h := ?_)
  refine amReg PT153_ok (h := ?_)
  refine amGo PT153_ok (h := ?_)
  (refine amRt Tryd.results16 (h := ?_); try simp [*])
theorem nec_p (N : Int) (ns : List Nd) (a : BitVec 128) (hN : okI N = true) (h : okNs ns = true) : FnPure Tryd.prog 16 [aNet N ns, aSet a] (neeA N ns a) := by
 unfold neeA
 cases hv : (validN N ns && subB a N)
 ·have he : openR N ns a = .tup [.v (.pointer none), .v (.int .i64 0), .v (.int .i64 1)] := by unfold openR; rw [if_pos hv]
  rw [if_pos rfl]
  unfold aNet aNds aSet WV
  refine fn_sp TT_ok Tryd.func16 (c := _) rfl (by simp [Tryd.ntmps16]) (fun B hI0 hro => ?_)
  rw [Tryd.ntmps16]
  simp only [enumA]
  refine amGo PT153_ok (h := ?_)
  (refine amRt Tryd.results16 (h := ?_); try simp [*])
 rw [if_neg (by decide)]
 by_cases h16 : 16 < (matL ns).length
 ·have he : openR N ns a = .tup [.v (.pointer none), .v (.int .i64 0), .v (.int .i64 2)] := by unfold openR; rw [if_neg (by rw [hv]; decide), if_pos h16]
  rw [if_pos h16]
  unfold aNet aNds aSet WV
  refine fn_sp TT_ok Tryd.func16 (c := _) rfl (by simp [Tryd.ntmps16]) (fun B hI0 hro => ?_)
  rw [Tryd.ntmps16]
  simp only [enumA]
  refine amGo PT153_ok (h := ?_)
  (refine amRt Tryd.results16 (h := ?_); try simp [*])
 ·rw [if_neg h16]
  exact nec_ok N ns a hN h hv (by omega)
@[simp] def g_tNecess : List AV → Option (AV × Bool)
 | [.agg [.v (.int .i64 N), a0], a1] => (match toNds a0 with | some ns => (match toSet a1 with | some a => if (okI N && okNs ns) = true then some (neeA N ns a, false) else none | none => none) | none => none)
 | _ => none
theorem e_tNecess : EntOk Tryd.prog 16 g_tNecess := ent_pure (by kernel_rfl) fun args r fr h => by
 unfold g_tNecess at h
 split at h
 ·rename_i N a0 a1
  split at h
  ·rename_i ns t0
   split at h
   ·rename_i a t1
    split at h
    ·rename_i hc
     simp only [Bool.and_eq_true] at hc
     obtain ⟨m0, o0⟩ := hc
     cases h
     exact ⟨FnPure.cov (nec_p N ns a m0 o0) (.cons (cov_th _ (cov_nds t0)) (.cons (toSet_inv t1 ▸ Cov.refl _) .nil)), rfl⟩
    ·cases h
   ·cases h
  ·cases h
 ·cases h

@[simp] def g_nEval : List AV → Option (AV × Bool)
 | [.agg [.v (.int .i64 N), a0], a1] => (match toNds a0 with | some ns => (match toSet a1 with | some a => if (okI N && okNs ns) = true then some (.v (.bool (evalN N ns a)), false) else none | none => none) | none => none)
 | _ => none
theorem e_nEval : EntOk Tryd.prog 27 g_nEval := ent_pure (by kernel_rfl) fun args r fr h => by
 unfold g_nEval at h
 split at h
 ·rename_i N a0 a1
  split at h
  ·rename_i ns t0
   split at h
   ·rename_i a t1
    split at h
    ·rename_i hc
     simp only [Bool.and_eq_true] at hc
     obtain ⟨m0, o0⟩ := hc
     cases h
     exact ⟨FnPure.cov (eval_p N ns a m0 o0) (.cons (cov_th _ (cov_nds t0)) (.cons (toSet_inv t1 ▸ Cov.refl _) .nil)), rfl⟩
    ·cases h
   ·cases h
  ·cases h
 ·cases h

def l154 : List (FuncId × (List AV → Option (AV × Bool))) :=
 (16, g_tNecess) :: (27, g_nEval) :: l153
theorem l154_ok : ∀ p ∈ l154, EntOk Tryd.prog p.1 p.2 := ent_cons e_tNecess (ent_cons e_nEval (l153_ok))
def PT154 : PTab := tab l154
theorem PT154_ok : PTok Tryd.prog PT154 := tab_ok l154_ok
@[simp] theorem PT154_tNecess : PT154 16 = g_tNecess := rfl
@[simp] theorem PT154_nEval : PT154 27 = g_nEval := rfl
@[simp] theorem PT154_old (f : FuncId) (h : decide (f ≠ 16 ∧ f ≠ 27) = true) : PT154 f = PT153 f := (fun h => Eq.trans (tab_old h.1) (tab_old h.2)) (of_decide_eq_true h)
end Go.Proofs.YtecdhmiamlgibaaDoor
