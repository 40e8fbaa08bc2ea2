/- explain.Reasons; no condition. -/
import Derived.Test.YtecdhmiamlgibaaDoorTl39
import Derived.Test.YtecdhmiamlgibaaDoorWl
import Derived.Test.YtecdhmiamlgibaaDoorEv39
namespace Go.Proofs.YtecdhmiamlgibaaDoor
set_option linter.unusedVariables false
set_option linter.unusedSimpArgs false
set_option linter.unusedSectionVars false
open Go.RowKit
open Wlk
attribute [-simp] List.getD_eq_getElem?_getD
set_option maxRecDepth 100000
attribute [local simp] aBools
def reaA (N : Int) (ns : List Nd) (a : BitVec 128) : AV :=
 if (validN N ns && subB a N) = false then .tup [.v (.slice none 0 0), .v (.int .i64 1)]
 else if 16 < (matL ns).length then .tup [.v (.slice none 0 0), .v (.int .i64 2)]
 else .tup [aRows (sortX (reaL (tabF ns) (matL ns) (idxN (matL ns) a) (2 ^ (matL ns).length))), .v (.int .i64 0)]
def leK (f : Nat → Bool) (n x P k : Nat) : Bool := !chgB f n x (cmpl n P) && (List.range k).all fun j => !P.testBit j || chgB f n x (cmpl n P ||| 2 ^ j)
theorem leK_succ (f : Nat → Bool) (n x P k : Nat) : leK f n x P (k + 1) = (leK f n x P k && (!P.testBit k || chgB f n x (cmpl n P ||| 2 ^ k))) := by
 unfold leK
 rw [List.range_succ, List.all_append, Bool.and_assoc]
 simp
theorem or_i64 {a b : Nat} (ha : a < 2 ^ 64) (hb : b < 2 ^ 64) : a % 2 ^ IntKind.i64.bits ||| b % 2 ^ IntKind.i64.bits = a ||| b := by
 rw [bits_i64, Nat.mod_eq_of_lt ha, Nat.mod_eq_of_lt hb]
theorem and_i64 {a b : Nat} (ha : a < 2 ^ 64) (hb : b < 2 ^ 64) : a % 2 ^ IntKind.i64.bits &&& b % 2 ^ IntKind.i64.bits = a &&& b := by
 rw [bits_i64, Nat.mod_eq_of_lt ha, Nat.mod_eq_of_lt hb]
set_option maxHeartbeats 16000000 in
theorem reasons_ok (N : Int) (ns : List Nd) (a : BitVec 128) (hN : okI N = true) (h : okNs ns = true) (hv : (validN N ns && subB a N) = true) (h16 : (matL ns).length ≤ 16) : FnPure Tryd.prog 14 [aNet N ns, aSet a] (.tup [aRows (sortX (reaL (tabF ns) (matL ns) (idxN (matL ns) a) (2 ^ (matL ns).length))), .v (.int .i64 0)]) := by
 have he : openR N ns a = .tup [.pt [.v (.int .i64 N), aInts (matL ns), aBools (onL (matL ns) ns)], .v (.int .i64 (idxN (matL ns) a : Int)), .v (.int .i64 0)] := by unfold openR; rw [if_neg (by rw [hv]; decide), if_neg (by omega)]; rfl
 have hok := matL_ok h16
 have hon := onL_len (matL ns) ns
 have hi := idxN_lt (matL ns) a
 have hfe : (fun i => (onL (matL ns) ns).getD i false) = tabF ns := rfl
 generalize tabF ns = f at hfe ⊢
 generalize matL ns = vs at he hok hon hi h16 hfe ⊢
 generalize onL vs ns = on at he hon hi hfe ⊢
 obtain ⟨x, hx⟩ : ∃ x, idxN vs a = x := ⟨_, rfl⟩
 rw [hx] at hi he ⊢
 clear hx
 obtain ⟨hvo, _⟩ := okV_vs hok
 have hcl := chgL_len f vs.length x
 have hcg := fun (m : Nat) (hm : m < 2 ^ vs.length) => chgL_get (f := f) (at0 := x) hm
 have hp2 : 2 ^ vs.length ≤ 65536 := Nat.pow_le_pow_right (n := 2) (by omega) h16
 have hp1 := Nat.two_pow_pos vs.length
 have hrows := reaL_rows hvo h16 f x (2 ^ vs.length) (by omega)
 have hlits : ∀ c ∈ reaL f vs x (2 ^ vs.length), LitsX c := fun c hc => by
  obtain ⟨Q, _, _, rfl⟩ := reaL_mem.1 hc; exact term_lits hvo x Q
 have hanti : ∀ c d, c ∈ reaL f vs x (2 ^ vs.length) → d ∈ reaL f vs x (2 ^ vs.length) → cmpX c d = 0 → c = d := fun c d hc hd e => by
  obtain ⟨P, _, _, rfl⟩ := reaL_mem.1 hc
  obtain ⟨Q, _, _, rfl⟩ := reaL_mem.1 hd
  exact term_anti hvo e
 have hcm : ∀ P, P < 2 ^ vs.length → _ ∧ cmpl vs.length P < 2 ^ vs.length := fun P hP => ⟨andn_cmpl h16 hP, cmpl_lt hP⟩
 have hol : ∀ P k, P < 2 ^ vs.length → k < vs.length → (cmpl vs.length P ||| 2 ^ k) < 2 ^ vs.length ∧ 2 ^ k < 2 ^ vs.length := fun P k hP hk => ⟨or_lt (cmpl_lt hP) hk, Nat.pow_lt_pow_right (by omega) hk⟩
 obtain ⟨A, hA⟩ : ∃ A, 2 ^ vs.length = A + 1 := ⟨2 ^ vs.length - 1, by omega⟩
 simp only [hA, Nat.add_sub_cancel] at hcm
 rw [hA] at hi hon hcl hp2 hrows hlits hanti ⊢
 simp only [hA] at hcg hol
 generalize hU : chgL f vs.length x = U at hcl hcg
 have hox : okI (x : Int) = true := okI_iff.2 ⟨by omega, by omega⟩
 have hi2 : (x : Int) < (A : Int) + 1 := by omega
 have hx2 : (x : Int) ≤ 65535 := by omega
 have hx3 : x ≤ 65535 := by omega
 have hwA : IntKind.i64.wrap (A : Int) = (A : Int) := i64w (by omega) (by omega)
 have HCM := Lib.hid hcm
 have HOL := Lib.hid hol
 have HCG := Lib.hid hcg
 have HLI := Lib.hid hlits
 have HAN := Lib.hid hanti
 clear hcm hol hcg hlits hanti
 unfold aNet aNds aSet WV
 refine fn_sp TT_ok Tryd.func14 (c := _) rfl (by simp [Tryd.ntmps14]) (fun B hI0 hro => ?_)
 rw [Tryd.ntmps14]
 simp only [enumA]
 refine amStr (h := ?_)
 refine amReg PT152_ok (h := ?_)
 refine amStr (h := ?_)
 refine amReg PT152_ok (h := ?_)
 refine amStr (h := ?_)
 refine amReg PT152_ok (h := ?_)
 refine amStr (h := ?_)
 refine amReg PT152_ok (h := ?_)
 refine amStr (h := ?_)
 refine amReg PT152_ok (h := ?_)
 refine amStr (h := ?_)
 refine amReg PT152_ok (h := ?_)
 refine amStr (h := ?_)
 refine s_nil 11 50 34 1 (by simp [lk]) (by simp) ?_
 simp [st]
 refine amReg PT152_ok (h := ?_)
 refine amStr (h := ?_)
 refine s_loop (J := fun i : {P : Nat // P ≤ A + 1} => ⟨85, [(6, .pt [.v (.int .i64 N), aInts vs, .sl 1 (on.map fun b => [AV.v (.bool b)])]), (7, .v (.int .i64 (x : Int))), (9, .sl 1 (U.map fun b => [AV.v (.bool b)])), (10, .v (.int .i64 (A : Int))), (11, .ref 50 0 (reaL f vs x i.1).length), (33, .v (.int .i64 ((A : Int) + 1))), (34, .v (.int .i64 (i.1 : Int)))], [(50, ⟨34, 1, (reaL f vs x i.1).map fun c => [aInts c]⟩)], [50]⟩) (μ := fun i => A + 1 - i.1) ⟨0, Nat.zero_le _⟩ ?_ (fun ⟨P, hP⟩ => ?_)
 ·have h0 : reaL f vs x 0 = [] := rfl
  (refine weak_id rfl ?_ ?_ <;> ((try simp only [List.mem_cons, List.not_mem_nil, or_false, forall_eq_or_imp, forall_eq]); (try simp (disch := omega) [i64w, *])))
 refine amStr (h := ?_)
 refine amReg PT152_ok (h := ?_)
 refine amStr (h := ?_)
 (focus ((with_reducible refine sp_cond (b := ?_) ?_ (fun hc => ?_) (fun hc => ?_)); rotate_left; (focus (first | rfl | (simp [lk, AS.ev]; rfl))); all_goals (try simp at hc)))
 ·have hPP : P < A + 1 := by omega
  clear hc
  obtain ⟨c1, c2⟩ := HCM.out P hPP
  have hol2 := HOL.out P
  have hlk := leK_succ f vs.length x P
  have hl0 : leK f vs.length x P 0 = !chgB f vs.length x (cmpl vs.length P) := by simp [leK]
  have hrl := reaL_len f vs x P
  obtain ⟨C, hC⟩ : ∃ C, cmpl vs.length P = C := ⟨_, rfl⟩
  rw [hC] at c1 c2 hol2 hlk hl0
  rw [← HCG.out C c2] at hl0
  have HLK := Lib.hid hlk
  have HOL2 := Lib.hid hol2
  clear hlk hol2
  have hCU : C < U.length := by omega
  have hCi : (C : Int) < (A : Int) + 1 := by omega
  have hwC : IntKind.i64.wrap (C : Int) = (C : Int) := i64w (by omega) (by omega)
  clear hC
  refine amStr (h := ?_)
  refine amReg PT152_ok (h := ?_)
  refine amStr (h := ?_)
  refine amReg PT152_ok (h := ?_)
  refine amStr (h := ?_)
  refine amReg PT152_ok (h := ?_)
  refine amStr (h := ?_)
  rw [← hl0]
  clear hl0
  refine s_loop (J := fun i : {k : Nat // k ≤ vs.length} => ⟨85, [(6, .pt [.v (.int .i64 N), aInts vs, .sl 1 (on.map fun b => [AV.v (.bool b)])]), (7, .v (.int .i64 (x : Int))), (9, .sl 1 (U.map fun b => [AV.v (.bool b)])), (10, .v (.int .i64 (A : Int))), (11, .ref 50 0 (reaL f vs x P).length), (33, .v (.int .i64 ((A : Int) + 1))), (34, .v (.int .i64 (P : Int))), (12, .v (.int .i64 (P : Int))), (13, .v (.bool (leK f vs.length x P i.1))), (48, .v (.int .i64 (vs.length : Int))), (49, .v (.int .i64 (i.1 : Int)))], [(50, ⟨34, 1, (reaL f vs x P).map fun c => [aInts c]⟩)], [50]⟩) (μ := fun i => vs.length - i.1) ⟨0, Nat.zero_le _⟩ ?_ (fun ⟨k, hk⟩ => ?_)
  ·(refine weak_id rfl ?_ ?_ <;> ((try simp only [List.mem_cons, List.not_mem_nil, or_false, forall_eq_or_imp, forall_eq]); (try simp (disch := omega) [i64w, *])))
  refine amStr (h := ?_)
  refine amReg PT152_ok (h := ?_)
  refine amStr (h := ?_)
  (focus ((with_reducible refine sp_cond (b := ?_) ?_ (fun hc => ?_) (fun hc => ?_)); rotate_left; (focus (first | rfl | (simp [lk, AS.ev]; rfl))); all_goals (try simp at hc)))
  ·have hkk := hc
   clear hc
   obtain ⟨d1, d2⟩ := HOL2.out k hPP hkk
   have hs := HLK.out k
   rw [← HCG.out _ d1] at hs
   have hwk : IntKind.u64.wrap (k : Int) = (k : Int) := u64w (by omega) (by omega)
   have hk0 : ¬ ((k : Int) < 0) := by omega
   have hmin : min k IntKind.i64.bits = k := by rw [bits_i64]; omega
   have hap := and_pow P k
   have hMp := Nat.two_pow_pos k
   obtain ⟨M, hM⟩ : ∃ M : Nat, 2 ^ k = M := ⟨_, rfl⟩
   have hpow : IntKind.i64.wrap (2 ^ k) = (M : Int) := by
    have e : ((2 : Int) ^ k) = (M : Int) := by rw [← hM]; simp
    rw [e]; exact i64w (by omega) (by omega)
   rw [hM] at d1 d2 hs hap hMp
   have hor := or_i64 (a := C) (b := M) (by omega) (by omega)
   have hand := and_i64 (a := P) (b := M) (by omega) (by omega)
   rw [hap] at hand
   clear hap hM
   obtain ⟨D, hD⟩ : ∃ D, C ||| M = D := ⟨_, rfl⟩
   rw [hD] at d1 hs hor
   clear hD
   have hDU : D < U.length := by omega
   have hDi : (D : Int) < (A : Int) + 1 := by omega
   have hwD : IntKind.i64.wrap (D : Int) = (D : Int) := i64w (by omega) (by omega)
   have hwM : IntKind.i64.wrap (M : Int) = (M : Int) := i64w (by omega) (by omega)
   have hM0 : ((M : Int) == 0) = false := by rw [beq_eq_false_iff_ne]; omega
   cases hK : leK f vs.length x P k
   ·rw [hK, Bool.false_and] at hs
    refine amStr (h := ?_)
    refine amReg PT152_ok (h := ?_)
    refine amStr (h := ?_)
    refine amReg PT152_ok (h := ?_)
    refine amStr (h := ?_)
    refine amReg PT152_ok (h := ?_)
    refine amStr (h := ?_)
    refine amReg PT152_ok (h := ?_)
    refine k_lp (⟨k + 1, by omega⟩ : {k : Nat // k ≤ vs.length}) (by first | omega | (dsimp only; omega)) ?_
    (refine weak_id rfl ?_ ?_ <;> ((try simp only [List.mem_cons, List.not_mem_nil, or_false, forall_eq_or_imp, forall_eq]); (try simp (disch := omega) [i64w, *])))
   ·rw [hK, Bool.true_and] at hs
    cases hT : P.testBit k
    ·rw [hT, Bool.not_false, Bool.true_or] at hs
     rw [hT, if_neg (by decide)] at hand
     refine amStr (h := ?_)
     refine amReg PT152_ok (h := ?_)
     refine amStr (h := ?_)
     refine amReg PT152_ok (h := ?_)
     refine amStr (h := ?_)
     refine amReg PT152_ok (h := ?_)
     refine amStr (h := ?_)
     refine amReg PT152_ok (h := ?_)
     refine k_lp (⟨k + 1, by omega⟩ : {k : Nat // k ≤ vs.length}) (by first | omega | (dsimp only; omega)) ?_
     (refine weak_id rfl ?_ ?_ <;> ((try simp only [List.mem_cons, List.not_mem_nil, or_false, forall_eq_or_imp, forall_eq]); (try simp (disch := omega) [i64w, *])))
    ·rw [hT, Bool.not_true, Bool.false_or] at hs
     rw [hT, if_pos rfl] at hand
     refine amStr (h := ?_)
     refine amReg PT152_ok (h := ?_)
     refine amStr (h := ?_)
     refine amReg PT152_ok (h := ?_)
     refine amStr (h := ?_)
     refine amReg PT152_ok (h := ?_)
     refine amStr (h := ?_)
     refine amReg PT152_ok (h := ?_)
     refine k_lp (⟨k + 1, by omega⟩ : {k : Nat // k ≤ vs.length}) (by first | omega | (dsimp only; omega)) ?_
     (refine weak_id rfl ?_ ?_ <;> ((try simp only [List.mem_cons, List.not_mem_nil, or_false, forall_eq_or_imp, forall_eq]); (try simp (disch := omega) [i64w, *])))
  ·obtain rfl : k = vs.length := by omega
   clear hc
   have hlast : leK f vs.length x P vs.length = leastB f vs.length x P := rfl
   have hre := reaL_succ f vs x P
   rw [hlast]
   clear hlast
   cases hK : leastB f vs.length x P
   ·rw [hK, if_neg (by decide)] at hre
    refine amStr (h := ?_)
    refine amReg PT152_ok (h := ?_)
    refine amStr (h := ?_)
    refine amReg PT152_ok (h := ?_)
    refine k_lp (⟨P + 1, by omega⟩ : {P : Nat // P ≤ A + 1}) (by first | omega | (dsimp only; omega)) ?_
    (refine weak_id rfl ?_ ?_ <;> ((try simp only [List.mem_cons, List.not_mem_nil, or_false, forall_eq_or_imp, forall_eq]); (try simp (disch := omega) [i64w, *])))
   ·rw [hK, if_pos rfl] at hre
    have htl := termL_len vs x P
    have hto := term_ok hvo h16 x P
    have hP5 : (P : Int) ≤ 65535 := by omega
    have hcap : ((reaL f vs x P).length + 1) * 24 ≤ 140737488355328 := by omega
    refine amStr (h := ?_)
    refine amReg PT152_ok (h := ?_)
    refine amStr (h := ?_)
    have hoP : okI (P : Int) = true := okI_iff.2 ⟨by omega, by omega⟩
    refine amGo PT152_ok (h := ?_)
    refine k_lp (⟨P + 1, by omega⟩ : {P : Nat // P ≤ A + 1}) (by first | omega | (dsimp only; omega)) ?_
    (refine weak_of (fun q => if q = 50 then 57 else q) ⟨rfl, ?_, ?_, ?_⟩ <;> ((try simp only [List.mem_cons, List.not_mem_nil, or_false, forall_eq_or_imp, forall_eq]); (try simp (disch := omega) [lk, AV.ids, idsL, idsLL, AV.ren, renL, renLL, i64w, *])))
 ·obtain rfl : P = A + 1 := by omega
  clear hc
  have HL := HLI.out
  have HA := HAN.out
  generalize reaL f vs x (A + 1) = L at hrows HL HA ⊢
  clear HLI HAN HCM HOL HCG
  refine amStr (h := ?_)
  refine s_regionL ?_
  ((iterate 1 (((with_reducible refine spl_step TT_ok PT152_ok (id := 0) (σ' := ?_) ?_ ?_); rotate_left; (focus (simp [*]; rfl))))))
  refine spl_op (s := (.v (.tuple #[]), [(50, some ⟨34, 1, (sortX L).map fun c => [aInts c]⟩)])) rfl rfl (ok_sortX rfl rfl rfl hrows HL HA) ?_
  refine spl_nil ?_
  refine amStr (h := ?_)
  rw [show L.length = (sortX L).length from (sortX_perm _).length_eq.symm]
  have hok2 : okRows (sortX L) = true := by
   rw [okRows, Bool.and_eq_true, List.all_eq_true, decide_eq_true_eq] at hrows ⊢
   exact ⟨fun c hc => hrows.1 c ((sortX_perm L).mem_iff.1 hc), by rw [(sortX_perm L).length_eq]; exact hrows.2⟩
  (refine s_eq (τ := ?_) ?_ ?_; rotate_left; (focus ((try simp only [AS.frz, List.map_cons, List.map_nil]); (try simp [frzV, frzO, frzC, List.filter]); rfl)))
  refine s_frz (fun q => q == 50) ?_
  (refine s_eq (τ := ?_) ?_ ?_; rotate_left; (focus ((try simp only [AS.frz, List.map_cons, List.map_nil]); (try simp [frzV, frzO, frzC, List.filter]); rfl)))
  refine amGo PT152_ok (h := ?_)
  (refine amRt Tryd.results14 (h := ?_); try simp [*])
theorem reasons_p (N : Int) (ns : List Nd) (a : BitVec 128) (hN : okI N = true) (h : okNs ns = true) : FnPure Tryd.prog 14 [aNet N ns, aSet a] (reaA N ns a) := by
 unfold reaA
 cases hv : (validN N ns && subB a N)
 ·have he : openR N ns a = .tup [.v (.pointer none), .v (.int .i64 0), .v (.int .i64 1)] := by unfold openR; rw [if_pos hv]
  rw [if_pos rfl]
  unfold aNet aNds aSet WV
  refine fn_sp TT_ok Tryd.func14 (c := _) rfl (by simp [Tryd.ntmps14]) (fun B hI0 hro => ?_)
  rw [Tryd.ntmps14]
  simp only [enumA]
  refine amGo PT152_ok (h := ?_)
  (refine amRt Tryd.results14 (h := ?_); try simp [*])
 rw [if_neg (by decide)]
 by_cases h16 : 16 < (matL ns).length
 ·have he : openR N ns a = .tup [.v (.pointer none), .v (.int .i64 0), .v (.int .i64 2)] := by unfold openR; rw [if_neg (by rw [hv]; decide), if_pos h16]
  rw [if_pos h16]
  unfold aNet aNds aSet WV
  refine fn_sp TT_ok Tryd.func14 (c := _) rfl (by simp [Tryd.ntmps14]) (fun B hI0 hro => ?_)
  rw [Tryd.ntmps14]
  simp only [enumA]
  refine amGo PT152_ok (h := ?_)
  (refine amRt Tryd.results14 (h := ?_); try simp [*])
 ·rw [if_neg h16]
  exact reasons_ok N ns a hN h hv (by omega)
@[simp] def g_tReasons : List AV → Option (AV × Bool)
 | [.agg [.v (.int .i64 N), a0], a1] => (match toNds a0 with | some ns => (match toSet a1 with | some a => if (okI N && okNs ns) = true then some (reaA N ns a, false) else none | none => none) | none => none)
 | _ => none
theorem e_tReasons : EntOk Tryd.prog 14 g_tReasons := ent_pure (by kernel_rfl) fun args r fr h => by
 unfold g_tReasons at h
 split at h
 ·rename_i N a0 a1
  split at h
  ·rename_i ns t0
   split at h
   ·rename_i a t1
    split at h
    ·rename_i hc
     simp only [Bool.and_eq_true] at hc
     obtain ⟨m0, o0⟩ := hc
     cases h
     exact ⟨FnPure.cov (reasons_p N ns a m0 o0) (.cons (cov_th _ (cov_nds t0)) (.cons (toSet_inv t1 ▸ Cov.refl _) .nil)), rfl⟩
    ·cases h
   ·cases h
  ·cases h
 ·cases h

def l153 : List (FuncId × (List AV → Option (AV × Bool))) :=
 (14, g_tReasons) :: l152
theorem l153_ok : ∀ p ∈ l153, EntOk Tryd.prog p.1 p.2 := ent_cons e_tReasons (l152_ok)
def PT153 : PTab := tab l153
theorem PT153_ok : PTok Tryd.prog PT153 := tab_ok l153_ok
@[simp] theorem PT153_tReasons : PT153 14 = g_tReasons := rfl
@[simp] theorem PT153_old (f : FuncId) (h : decide (f ≠ 14) = true) : PT153 f = PT152 f := tab_old (of_decide_eq_true h)
end Go.Proofs.YtecdhmiamlgibaaDoor
