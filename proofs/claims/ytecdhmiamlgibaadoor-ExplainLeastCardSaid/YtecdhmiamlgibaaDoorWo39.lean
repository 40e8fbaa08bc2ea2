/- The table's word: 64 results at once; no condition. -/
import Derived.Test.YtecdhmiamlgibaaDoorTbG
import Derived.Test.YtecdhmiamlgibaaDoorWl
import Derived.Test.YtecdhmiamlgibaaDoorLeG
namespace Go.Proofs.YtecdhmiamlgibaaDoor
set_option linter.unusedVariables false
set_option linter.unusedSimpArgs false
set_option linter.unusedSectionVars false
open Go.RowKit
open Wlk
attribute [-simp] List.getD_eq_getElem?_getD
set_option maxRecDepth 100000
attribute [local simp] AV.ren renL
def maskV : List AV := [.v (.int .u64 12297829382473034410), .v (.int .u64 14757395258967641292), .v (.int .u64 17361641481138401520), .v (.int .u64 18374966859414961920), .v (.int .u64 18446462603027742720), .v (.int .u64 18446744069414584320)]
def tabO (N : Int) (vs : List Int) (L : Nat) (on : List Bool) : List (Nat × AObj) := [(11, ⟨68, 3, [[.v (.int .i64 N), aInts vs, .ref 20 0 L]]⟩), (20, ⟨4, 1, on.map fun b => [AV.v (.bool b)]⟩)]
@[simp ↓ high] theorem d_ids_rep0 (x : Value) (n : Nat) : idsLL (List.replicate n [AV.v x]) = [] := ids_rep x n
@[simp ↓ high] theorem d_ren_rep0 (ρ : Nat → Nat) (x : Value) (n : Nat) : renLL ρ (List.replicate n [AV.v x]) = List.replicate n [AV.v x] := renLL_pure ρ _ (ids_rep x n)
theorem setW_zero {LL : List (BitVec 64)} {k : Nat} (h : LL.getD k 0#64 = 0#64) : LL.set k 0#64 = LL := by
 by_cases hk : k < LL.length
 ·refine ext_getD 0#64 (by simp) fun i hi => ?_
  by_cases e : k = i
  ·subst e; rw [getD_set_eq hk, h]
  ·rw [getD_set_ne e]
 ·exact List.set_eq_of_length_le (by omega)
theorem xor_not (X : BitVec 64) : IntKind.u64.wrap (((((if IntKind.u64.signed = true then -1 else IntKind.u64.max) % 2 ^ IntKind.u64.bits).toNat ^^^ X.toNat % 2 ^ IntKind.u64.bits : Nat)) : Int) = ((18446744073709551615 - X.toNat : Nat) : Int) := by
 have e : ((if IntKind.u64.signed = true then -1 else IntKind.u64.max) % 2 ^ IntKind.u64.bits : Int).toNat = (BitVec.allOnes 64).toNat := by decide
 have h := X.isLt
 rw [e, bits64, Nat.mod_eq_of_lt h, ← BitVec.toNat_xor, BitVec.allOnes_xor, BitVec.toNat_not]
 exact u64w (by omega) (by omega)
theorem word_and (x y : BitVec 64) : IntKind.u64.wrap (((x.toNat % 2 ^ IntKind.u64.bits &&& y.toNat % 2 ^ IntKind.u64.bits : Nat)) : Int) = ((x &&& y).toNat : Int) := by
 rw [bits64, Nat.mod_eq_of_lt x.isLt, Nat.mod_eq_of_lt y.isLt, ← BitVec.toNat_and]
 exact u64w (by omega) (by have := (x &&& y).isLt; omega)
theorem idsLL_set : ∀ (ys : List (List AV)) (i : Nat) (r : List AV), idsLL ys = [] → idsL r = [] → idsLL (ys.set i r) = []
 | [], _, _, h, _ => h
 | y :: ys, 0, r, h, hr => by
  simp only [idsLL, List.append_eq_nil_iff] at h
  simp only [List.set_cons_zero, idsLL, hr, h.2, List.append_nil]
 | y :: ys, i + 1, r, h, hr => by
  simp only [idsLL, List.append_eq_nil_iff] at h
  simp only [List.set_cons_succ, idsLL, h.1, idsLL_set ys i r h.2 hr, List.append_nil]
@[simp ↓ high] theorem d_ids_wset (l : List (BitVec 64)) (k : Nat) (x : Value) : idsLL ((l.map fun w => [AV.v (.int .u64 (w.toNat : Int))]).set k [.v x]) = [] := idsLL_set _ _ _ (d_ids_words l) (by simp [idsL, AV.ids])
@[simp ↓ high] theorem d_ren_wset (ρ : Nat → Nat) (l : List (BitVec 64)) (k : Nat) (x : Value) : renLL ρ ((l.map fun w => [AV.v (.int .u64 (w.toNat : Int))]).set k [.v x]) = (l.map fun w => [AV.v (.int .u64 (w.toNat : Int))]).set k [.v x] := renLL_pure ρ _ (d_ids_wset l k x)
def accU (of : Int → BitVec 64) (x : Nd) (w : List (BitVec 64)) (j : Nat) : BitVec 64 := (x.2.2.take j).foldl (fun u k => if x.1 = 3 then u &&& w.getD k.toNat 0#64 else u ||| w.getD k.toNat 0#64) (nodeI of x)
theorem accU_succ (of : Int → BitVec 64) (x : Nd) (w : List (BitVec 64)) {j : Nat} (hj : j < x.2.2.length) : accU of x w (j + 1) = if x.1 = 3 then accU of x w j &&& w.getD (x.2.2.getD j 0).toNat 0#64 else accU of x w j ||| w.getD (x.2.2.getD j 0).toNat 0#64 := by
 unfold accU
 rw [List.take_add_one, List.getElem?_eq_getElem hj, List.foldl_append]
 simp [List.getD, hj]
theorem words_fix (of : Int → BitVec 64) {N : Int} {ns : List Nd} (h : validN N ns = true) {i : Nat} (hi : i < ns.length) : (wordsL of ns).getD i 0#64 = accU of (ns.getD i nd0) (wordsL of ns) (ns.getD i nd0).2.2.length := by
 unfold accU
 rw [List.take_length]
 exact scanN_fix (nodeW_in of) h hi
set_option maxHeartbeats 16000000 in
theorem word_lend (N : Int) (ns : List Nd) (vs : List Int) (frm L : Nat) (on : List Bool) (hN : okI N = true) (h : okNs ns = true) (hv : validN N ns = true) (hvs : okV vs = true) (hf : frm ≤ 65536) {c : Code} (hc : (Go.Proofs.Tryd.f93).body = some c) :
  ∀ B' : Base, B'.I0 = [11, 20] → B'.ro = none → SP Tryd.prog B' c ⟨(Go.Proofs.Tryd.f93).ntmps, enumA 0 [.ptr 11 0 0, aNet N ns, .v (.int .i64 (frm : Int))], tabO N vs L on, [11, 20]⟩ (fun e τ => (e = .normal ∨ e = .ret) ∧ ∃ av', retA TT τ (Go.Proofs.Tryd.f93).results.toList = some av' ∧ (av' = .v (.int .u64 ((wordR vs ns frm).toNat : Int)) ∧ WeakI [11, 20] ⟨τ.n, [], τ.objs, τ.ids⟩ ⟨τ.n, [], tabO N vs L on, [11, 20]⟩)) := by
 intro B' hI0 hro
 have hl := okNs_len h
 have hp := valid_len hv
 obtain ⟨hvo, hvl⟩ := okV_vs hvs
 obtain ⟨b, hb⟩ : ∃ b, (Go.Proofs.Tryd.f93).body = some b := ⟨_, rfl⟩
 rw [hb] at hc
 cases hc
 cases hb
 rw [Tryd.ntmps93, Tryd.results93]
 unfold aNet aNds tabO
 simp only [enumA]
 refine amStr (h := ?_)
 refine amReg PT148_ok (h := ?_)
 refine amStr (h := ?_)
 refine amReg PT148_ok (h := ?_)
 refine amStr (h := ?_)
 refine amReg PT148_ok (h := ?_)
 refine amStr (h := ?_)
 refine amReg PT148_ok (h := ?_)
 refine amStr (h := ?_)
 refine s_loopI hI0 (J := fun i : {k : Nat // k ≤ vs.length} => ⟨128, [(0, .ptr 11 0 0), (2, .v (.int .i64 (frm : Int))), (4, .ptr 21 0 0), (7, .ptr 23 0 0), (8, .mp 24), (21, aInts vs), (22, .v (.int .i64 (vs.length : Int))), (23, .v (.int .i64 (i.1 : Int)))], [(11, ⟨68, 3, [[.v (.int .i64 N), aInts vs, .ref 20 0 L]]⟩), (20, ⟨4, 1, on.map fun b => [AV.v (.bool b)]⟩), (21, ⟨24, 2, [[.v (.int .i64 N), .sl 3 (ns.map fun x => [AV.v (.int .i64 x.1), .v (.int .i64 x.2.1), aInts x.2.2])]]⟩), (23, ⟨122, 6, [maskV]⟩), (24, ⟨123, 0, (entL vs frm i.1).map fun p => [AV.v (.int .i64 p.1), .v (.int .u64 (p.2.toNat : Int))]⟩)], [24, 23, 21, 11, 20]⟩) (μ := fun i => vs.length - i.1) ⟨0, Nat.zero_le _⟩ ?_ (fun ⟨k, hk⟩ => ?_)
 ·have h0 : entL vs frm 0 = [] := rfl
  refine weakI_of (fun k => k) ⟨rfl, ?_, ?_, ?_⟩ ?_ <;> simp [h0, maskV, lk, AV.ids, idsL, idsLL, AV.ren, renL, renLL]
 refine amStr (h := ?_)
 refine amReg PT148_ok (h := ?_)
 refine amStr (h := ?_)
 (focus ((with_reducible refine sp_cond (b := ?_) ?_ (fun hc => ?_) (fun hc => ?_)); rotate_left; (focus (first | rfl | (simp [lk, AS.ev]; rfl))); all_goals (try simp at hc)))
 ·have hkk := hc
  clear hc
  have hn := ent_new hvo frm hkk
  have hfn := findE_none (i := 0) hn
  clear hn
  have hwk : IntKind.u64.wrap (k : Int) = (k : Int) := u64w (by omega) (by omega)
  have hk0 : ¬ ((k : Int) < 0) := by omega
  have hmin : min k IntKind.i64.bits = k := by rw [bits_i64]; omega
  have hs : entL vs frm (k + 1) = _ := entL.eq_2 vs frm k
  unfold maskV
  by_cases h6 : k < 6
  ·rw [if_pos h6] at hs
   have h6' : (k : Int) < 6 := by omega
   rcases (by omega : k = 0 ∨ k = 1 ∨ k = 2 ∨ k = 3 ∨ k = 4 ∨ k = 5) with rfl | rfl | rfl | rfl | rfl | rfl
   ·have hmv : ((maskW 0).toNat : Int) = 12297829382473034410 := by decide
    simp only [Nat.reduceAdd, Nat.zero_add] at hs
    refine amGo PT148_ok (h := ?_)
    refine ki_lp (⟨0 + 1, by omega⟩ : {k : Nat // k ≤ vs.length}) (by first | omega | (dsimp only; omega)) ?_
    (refine weakI_of (fun q => q) ⟨rfl, ?_, ?_, ?_⟩ ?_ <;> ((try simp only [List.mem_cons, List.not_mem_nil, or_false, forall_eq_or_imp, forall_eq]); (try simp (disch := omega) [lk, AV.ids, idsL, idsLL, AV.ren, renL, renLL, i64w, *])))
   ·have hki : (1 : Int) < (vs.length : Int) := by omega
    have hmv : ((maskW 1).toNat : Int) = 14757395258967641292 := by decide
    simp only [Nat.reduceAdd, Nat.zero_add] at hs
    refine amGo PT148_ok (h := ?_)
    refine ki_lp (⟨1 + 1, by omega⟩ : {k : Nat // k ≤ vs.length}) (by first | omega | (dsimp only; omega)) ?_
    (refine weakI_of (fun q => q) ⟨rfl, ?_, ?_, ?_⟩ ?_ <;> ((try simp only [List.mem_cons, List.not_mem_nil, or_false, forall_eq_or_imp, forall_eq]); (try simp (disch := omega) [lk, AV.ids, idsL, idsLL, AV.ren, renL, renLL, i64w, *])))
   ·have hki : (2 : Int) < (vs.length : Int) := by omega
    have hmv : ((maskW 2).toNat : Int) = 17361641481138401520 := by decide
    simp only [Nat.reduceAdd, Nat.zero_add] at hs
    refine amGo PT148_ok (h := ?_)
    refine ki_lp (⟨2 + 1, by omega⟩ : {k : Nat // k ≤ vs.length}) (by first | omega | (dsimp only; omega)) ?_
    (refine weakI_of (fun q => q) ⟨rfl, ?_, ?_, ?_⟩ ?_ <;> ((try simp only [List.mem_cons, List.not_mem_nil, or_false, forall_eq_or_imp, forall_eq]); (try simp (disch := omega) [lk, AV.ids, idsL, idsLL, AV.ren, renL, renLL, i64w, *])))
   ·have hki : (3 : Int) < (vs.length : Int) := by omega
    have hmv : ((maskW 3).toNat : Int) = 18374966859414961920 := by decide
    simp only [Nat.reduceAdd, Nat.zero_add] at hs
    refine amGo PT148_ok (h := ?_)
    refine ki_lp (⟨3 + 1, by omega⟩ : {k : Nat // k ≤ vs.length}) (by first | omega | (dsimp only; omega)) ?_
    (refine weakI_of (fun q => q) ⟨rfl, ?_, ?_, ?_⟩ ?_ <;> ((try simp only [List.mem_cons, List.not_mem_nil, or_false, forall_eq_or_imp, forall_eq]); (try simp (disch := omega) [lk, AV.ids, idsL, idsLL, AV.ren, renL, renLL, i64w, *])))
   ·have hki : (4 : Int) < (vs.length : Int) := by omega
    have hmv : ((maskW 4).toNat : Int) = 18446462603027742720 := by decide
    simp only [Nat.reduceAdd, Nat.zero_add] at hs
    refine amGo PT148_ok (h := ?_)
    refine ki_lp (⟨4 + 1, by omega⟩ : {k : Nat // k ≤ vs.length}) (by first | omega | (dsimp only; omega)) ?_
    (refine weakI_of (fun q => q) ⟨rfl, ?_, ?_, ?_⟩ ?_ <;> ((try simp only [List.mem_cons, List.not_mem_nil, or_false, forall_eq_or_imp, forall_eq]); (try simp (disch := omega) [lk, AV.ids, idsL, idsLL, AV.ren, renL, renLL, i64w, *])))
   ·have hki : (5 : Int) < (vs.length : Int) := by omega
    have hmv : ((maskW 5).toNat : Int) = 18446744069414584320 := by decide
    simp only [Nat.reduceAdd, Nat.zero_add] at hs
    refine amGo PT148_ok (h := ?_)
    refine ki_lp (⟨5 + 1, by omega⟩ : {k : Nat // k ≤ vs.length}) (by first | omega | (dsimp only; omega)) ?_
    (refine weakI_of (fun q => q) ⟨rfl, ?_, ?_, ?_⟩ ?_ <;> ((try simp only [List.mem_cons, List.not_mem_nil, or_false, forall_eq_or_imp, forall_eq]); (try simp (disch := omega) [lk, AV.ids, idsL, idsLL, AV.ren, renL, renLL, i64w, *])))
  ·rw [if_neg h6] at hs
   have h6' : ¬ ((k : Int) < 6) := by omega
   have hws : IntKind.i64.wrap ((k : Int) + 1) = (k : Int) + 1 := i64w (by omega) (by omega)
   have f1 := fdiv_pow frm k
   simp only [bit_div, decide_eq_true_eq] at hs
   have q1 : frm / 2 ^ k ≤ frm := Nat.div_le_self _ _
   obtain ⟨Q, hQ⟩ : ∃ Q, frm / 2 ^ k = Q := ⟨_, rfl⟩
   rw [hQ] at f1 hs q1
   have g1 := bit_and Q (by omega)
   clear hQ
   have hon : ((BitVec.allOnes 64).toNat : Int) = 18446744073709551615 := by decide
   obtain ⟨W, hW⟩ : ∃ W, BitVec.allOnes 64 = W := ⟨_, rfl⟩
   rw [hW] at hs hon
   clear hW
   rcases (by omega : Q % 2 = 0 ∨ Q % 2 = 1) with hq | hq
   ·rw [if_neg (by omega)] at hs
    refine amGo PT148_ok (h := ?_)
    refine ki_lp (⟨k + 1, by omega⟩ : {k : Nat // k ≤ vs.length}) (by first | omega | (dsimp only; omega)) ?_
    (refine weakI_of (fun q => q) ⟨rfl, ?_, ?_, ?_⟩ ?_ <;> ((try simp only [List.mem_cons, List.not_mem_nil, or_false, forall_eq_or_imp, forall_eq]); (try simp (disch := omega) [lk, AV.ids, idsL, idsLL, AV.ren, renL, renLL, i64w, *])))
   ·rw [if_pos hq] at hs
    refine amGo PT148_ok (h := ?_)
    refine ki_lp (⟨k + 1, by omega⟩ : {k : Nat // k ≤ vs.length}) (by first | omega | (dsimp only; omega)) ?_
    (refine weakI_of (fun q => q) ⟨rfl, ?_, ?_, ?_⟩ ?_ <;> ((try simp only [List.mem_cons, List.not_mem_nil, or_false, forall_eq_or_imp, forall_eq]); (try simp (disch := omega) [lk, AV.ids, idsL, idsLL, AV.ren, renL, renLL, i64w, *])))
 ·obtain rfl : k = vs.length := by omega
  clear hc
  have hlk := look_of hvo frm
  obtain ⟨E, hE⟩ : ∃ E, entL vs frm vs.length = E := ⟨_, rfl⟩
  rw [hE] at hlk
  rw [hE]
  clear hE
  have hcap : 8 * (ns.length : Int) ≤ 281474976710656 := by omega
  have hcap2 : (ns.length : Int) ≤ 9223372036854775807 := by omega
  have hcap3 : (ns.length : Int) ≤ 35184372088832 := by omega
  refine amStr (h := ?_)
  refine amReg PT148_ok (h := ?_)
  refine amStr (h := ?_)
  refine amReg PT148_ok (h := ?_)
  refine amStr (h := ?_)
  unfold wordR
  have hfix : ∀ k, k < ns.length → _ := fun k hk => words_fix (ofW vs frm) hv hk
  generalize ofW vs frm = of at hlk hfix ⊢
  have hV : (wordsL of ns).length = ns.length := scanN_len _ ns
  obtain ⟨V, hVV⟩ : ∃ V, wordsL of ns = V := ⟨_, rfl⟩
  rw [hVV] at hV hfix ⊢
  clear hVV
  refine s_loopI hI0 (J := fun i : {p : Nat × List (BitVec 64) // p.1 ≤ ns.length ∧ p.2.length = ns.length ∧ Hid (∀ j, j < p.1 → p.2.getD j 0#64 = V.getD j 0#64) ∧ Hid (∀ j, p.1 ≤ j → p.2.getD j 0#64 = 0#64)} => ⟨128, [(8, .mp 24), (11, .ref 28 0 ns.length), (51, .sl 3 (ns.map fun x => [AV.v (.int .i64 x.1), .v (.int .i64 x.2.1), aInts x.2.2])), (52, .v (.int .i64 (ns.length : Int))), (53, .v (.int .i64 (i.1.1 : Int)))], [(11, ⟨68, 3, [[.v (.int .i64 N), aInts vs, .ref 20 0 L]]⟩), (20, ⟨4, 1, on.map fun b => [AV.v (.bool b)]⟩), (24, ⟨123, 0, E.map fun p => [AV.v (.int .i64 p.1), .v (.int .u64 (p.2.toNat : Int))]⟩), (28, ⟨25, 1, i.1.2.map fun w => [AV.v (.int .u64 (w.toNat : Int))]⟩)], [28, 24, 11, 20]⟩) (μ := fun i => ns.length - i.1.1) ⟨(0, List.replicate ns.length 0#64), Nat.zero_le _, List.length_replicate .., Lib.hid fun j hj => by omega, Lib.hid fun j hj => by simp [List.getD, List.getElem?_replicate]; split <;> rfl⟩ ?_ (fun ⟨⟨k, LL⟩, hk, hLL, hlo, hhi⟩ => ?_)
  ·refine weakI_of (fun k => k) ⟨rfl, ?_, ?_, ?_⟩ ?_ <;> simp [lk, AV.ids, idsL, idsLL, AV.ren, renL, renLL]
  dsimp only at hk hLL hlo hhi
  dsimp only
  refine amStr (h := ?_)
  refine amReg PT148_ok (h := ?_)
  refine amStr (h := ?_)
  (focus ((with_reducible refine sp_cond (b := ?_) ?_ (fun hc => ?_) (fun hc => ?_)); rotate_left; (focus (first | rfl | (simp [lk, AS.ev]; rfl))); all_goals (try simp at hc)))
  ·have hkk := hc
   clear hc
   refine amStr (h := ?_)
   refine amReg PT148_ok (h := ?_)
   refine amStr (h := ?_)
   refine amReg PT148_ok (h := ?_)
   have hfm := valid_form hv hkk
   obtain ⟨o1, o2, o3, o5⟩ := okNs_at h hkk
   have o6 := okInts_len o3
   have hkL : k < LL.length := by omega
   have hz := hhi.out k (Nat.le_refl k)
   refine k_seq ?_
   refine s_cutK ⟨128, [(8, .mp 24), (11, .ref 28 0 ns.length), (12, .v (.int .i64 (k : Int))), (13, .ptr 32 0 0), (51, .sl 3 (ns.map fun x => [AV.v (.int .i64 x.1), .v (.int .i64 x.2.1), aInts x.2.2])), (52, .v (.int .i64 (ns.length : Int))), (53, .v (.int .i64 (k : Int)))], [(11, ⟨68, 3, [[.v (.int .i64 N), aInts vs, .ref 20 0 L]]⟩), (20, ⟨4, 1, on.map fun b => [AV.v (.bool b)]⟩), (24, ⟨123, 0, E.map fun p => [AV.v (.int .i64 p.1), .v (.int .u64 (p.2.toNat : Int))]⟩), (32, ⟨57, 3, [[.v (.int .i64 (ns.getD k nd0).1), .v (.int .i64 (ns.getD k nd0).2.1), aInts (ns.getD k nd0).2.2]]⟩), (28, ⟨25, 1, (LL.set k (nodeI of (ns.getD k nd0))).map fun w => [AV.v (.int .u64 (w.toNat : Int))]⟩)], [32, 28, 24, 11, 20]⟩ ?_ ?_
   ·have hfm2 := hfm
    unfold formB at hfm2
    rw [Bool.and_eq_true] at hfm2
    obtain ⟨_, hk2⟩ := hfm2
    clear hfix hhi hlo hfm
    have hNI : nodeI of (ns.getD k nd0) = if (ns.getD k nd0).1 = 1 ∨ (ns.getD k nd0).1 = 3 then BitVec.allOnes 64 else if (ns.getD k nd0).1 = 2 then (if (ns.getD k nd0).2.1 < 0 then ~~~ of (-(ns.getD k nd0).2.1) else of (ns.getD k nd0).2.1) else 0#64 := rfl
    by_cases k1 : (ns.getD k nd0).1 = 1 ∨ (ns.getD k nd0).1 = 3
    ·rw [if_pos k1] at hNI
     have hon : ((BitVec.allOnes 64).toNat : Int) = 18446744073709551615 := by decide
     generalize nodeI of (ns.getD k nd0) = W at hNI ⊢
     rw [← hNI] at hon
     clear hNI hk2 hz
     rcases k1 with k1 | k1
     ·refine amGo PT148_ok (h := ?_)
      refine ⟨rfl, fun c Q' k => s_weakI hI0 _ ?_ k⟩
      (refine weakI_of (fun q => q) ⟨rfl, ?_, ?_, ?_⟩ ?_ <;> ((try simp only [List.mem_cons, List.not_mem_nil, or_false, forall_eq_or_imp, forall_eq]); (try simp (disch := omega) [lk, AV.ids, idsL, idsLL, AV.ren, renL, renLL, i64w, *])))
     ·refine amGo PT148_ok (h := ?_)
      refine ⟨rfl, fun c Q' k => s_weakI hI0 _ ?_ k⟩
      (refine weakI_of (fun q => q) ⟨rfl, ?_, ?_, ?_⟩ ?_ <;> ((try simp only [List.mem_cons, List.not_mem_nil, or_false, forall_eq_or_imp, forall_eq]); (try simp (disch := omega) [lk, AV.ids, idsL, idsLL, AV.ren, renL, renLL, i64w, *])))
    ·rw [if_neg k1] at hNI
     by_cases k2 : (ns.getD k nd0).1 = 2
     ·rw [if_neg (by omega), if_pos k2, Bool.and_eq_true] at hk2
      rw [if_pos k2] at hNI
      obtain ⟨hok, _⟩ := hk2
      obtain ⟨e1, e2⟩ := litOk_abs hok
      obtain ⟨v1, v2⟩ := litVar_range (ns.getD k nd0).2.1
      have hwn : IntKind.i64.wrap (-(ns.getD k nd0).2.1) = -(ns.getD k nd0).2.1 := i64w (by split at e1 <;> omega) (by split at e1 <;> omega)
      clear hok e2 k1 hz
      by_cases hneg : (ns.getD k nd0).2.1 < 0
      ·rw [if_pos hneg] at hNI
       generalize nodeI of (ns.getD k nd0) = W at hNI ⊢
       have hlt : (ns.getD k nd0).2.1 < -(ns.getD k nd0).2.1 := by omega
       have hgs : ∀ r : List AV, ((LL.map fun w => [AV.v (.int .u64 (w.toNat : Int))]).set k r).getD k [] = r := fun r => getD_set_eq (by rw [List.length_map]; exact hkL)
       clear e1 v1 v2
       have hofu := hlk (-(ns.getD k nd0).2.1)
       obtain ⟨g1, g2⟩ := find_look E (-(ns.getD k nd0).2.1) 0
       cases hfe : findE E (-(ns.getD k nd0).2.1) 0 with
       | none =>
        rw [g1 hfe] at hofu
        rw [← hofu] at hNI
        clear g1 g2 hofu hlk
        refine amGo PT148_ok (h := ?_)
        refine ⟨rfl, fun c Q' k => s_weakI hI0 _ ?_ k⟩
        (refine weakI_of (fun q => q) ⟨rfl, ?_, ?_, ?_⟩ ?_ <;> ((try simp only [List.mem_cons, List.not_mem_nil, or_false, forall_eq_or_imp, forall_eq]); (try simp (disch := omega) [lk, AV.ids, idsL, idsLL, AV.ren, renL, renLL, i64w, *])))
        rfl
       | some i =>
        obtain ⟨_, g3, g4⟩ := g2 i hfe
        rw [Nat.sub_zero] at g3 g4
        rw [g4] at hofu
        obtain ⟨X, hX⟩ : ∃ X, (E.getD i (0, 0#64)).2 = X := ⟨_, rfl⟩
        rw [hX] at hofu
        rw [← hofu] at hNI
        clear g1 g2 g4 hofu hlk
        refine amGo PT148_ok (h := ?_)
        refine ⟨rfl, fun c Q' k => s_weakI hI0 _ ?_ k⟩
        (refine weakI_of (fun q => q) ⟨rfl, ?_, ?_, ?_⟩ ?_ <;> ((try simp only [List.mem_cons, List.not_mem_nil, or_false, forall_eq_or_imp, forall_eq]); (try simp (disch := omega) [lk, AV.ids, idsL, idsLL, AV.ren, renL, renLL, i64w, *])))
        rw [xor_not X]
      ·rw [if_neg hneg] at hNI
       generalize nodeI of (ns.getD k nd0) = W at hNI ⊢
       have hlt : ¬ (ns.getD k nd0).2.1 < -(ns.getD k nd0).2.1 := by omega
       clear e1 v1 v2
       have hofu := hlk (ns.getD k nd0).2.1
       obtain ⟨g1, g2⟩ := find_look E (ns.getD k nd0).2.1 0
       cases hfe : findE E (ns.getD k nd0).2.1 0 with
       | none =>
        rw [g1 hfe] at hofu
        rw [← hofu] at hNI
        clear g1 g2 hofu hlk
        refine amGo PT148_ok (h := ?_)
        refine ⟨rfl, fun c Q' k => s_weakI hI0 _ ?_ k⟩
        (refine weakI_of (fun q => q) ⟨rfl, ?_, ?_, ?_⟩ ?_ <;> ((try simp only [List.mem_cons, List.not_mem_nil, or_false, forall_eq_or_imp, forall_eq]); (try simp (disch := omega) [lk, AV.ids, idsL, idsLL, AV.ren, renL, renLL, i64w, *])))
       | some i =>
        obtain ⟨_, g3, g4⟩ := g2 i hfe
        rw [Nat.sub_zero] at g3 g4
        rw [g4] at hofu
        obtain ⟨X, hX⟩ : ∃ X, (E.getD i (0, 0#64)).2 = X := ⟨_, rfl⟩
        rw [hX] at hofu
        rw [← hofu] at hNI
        clear g1 g2 g4 hofu hlk
        refine amGo PT148_ok (h := ?_)
        refine ⟨rfl, fun c Q' k => s_weakI hI0 _ ?_ k⟩
        (refine weakI_of (fun q => q) ⟨rfl, ?_, ?_, ?_⟩ ?_ <;> ((try simp only [List.mem_cons, List.not_mem_nil, or_false, forall_eq_or_imp, forall_eq]); (try simp (disch := omega) [lk, AV.ids, idsL, idsLL, AV.ren, renL, renLL, i64w, *])))
     ·rw [if_neg k2] at hNI
      have hsz := setW_zero hz
      rw [hNI, hsz]
      clear hNI hz hsz
      by_cases k0 : (ns.getD k nd0).1 = 0
      ·refine amGo PT148_ok (h := ?_)
       refine ⟨rfl, fun c Q' k => s_weakI hI0 _ ?_ k⟩
       (refine weakI_of (fun q => q) ⟨rfl, ?_, ?_, ?_⟩ ?_ <;> ((try simp only [List.mem_cons, List.not_mem_nil, or_false, forall_eq_or_imp, forall_eq]); (try simp (disch := omega) [lk, AV.ids, idsL, idsLL, AV.ren, renL, renLL, i64w, *])))
      ·have k4 : (ns.getD k nd0).1 = 4 := by
        rw [if_neg (by omega), if_neg k2] at hk2
        by_cases h34 : (ns.getD k nd0).1 = 3 ∨ (ns.getD k nd0).1 = 4
        ·omega
        ·rw [if_neg h34] at hk2; cases hk2
       refine amGo PT148_ok (h := ?_)
       refine ⟨rfl, fun c Q' k => s_weakI hI0 _ ?_ k⟩
       (refine weakI_of (fun q => q) ⟨rfl, ?_, ?_, ?_⟩ ?_ <;> ((try simp only [List.mem_cons, List.not_mem_nil, or_false, forall_eq_or_imp, forall_eq]); (try simp (disch := omega) [lk, AV.ids, idsL, idsLL, AV.ren, renL, renLL, i64w, *])))
   have hfx := Lib.hid (hfix k hkk)
   clear hfix hz
   refine amStr (h := ?_)
   refine amReg PT148_ok (h := ?_)
   refine amStr (h := ?_)
   refine s_loopI hI0 (J := fun i : {q : Nat × List (BitVec 64) // q.1 ≤ (ns.getD k nd0).2.2.length ∧ q.2.length = ns.length ∧ Hid (∀ j, j < k → q.2.getD j 0#64 = V.getD j 0#64) ∧ Hid (∀ j, k < j → q.2.getD j 0#64 = 0#64) ∧ Hid (q.2.getD k 0#64 = accU of (ns.getD k nd0) V q.1)} => ⟨128, [(8, .mp 24), (11, .ref 28 0 ns.length), (12, .v (.int .i64 (k : Int))), (13, .ptr 32 0 0), (51, .sl 3 (ns.map fun x => [AV.v (.int .i64 x.1), .v (.int .i64 x.2.1), aInts x.2.2])), (52, .v (.int .i64 (ns.length : Int))), (53, .v (.int .i64 (k : Int))), (91, aInts (ns.getD k nd0).2.2), (92, .v (.int .i64 ((ns.getD k nd0).2.2.length : Int))), (93, .v (.int .i64 (i.1.1 : Int)))], [(11, ⟨68, 3, [[.v (.int .i64 N), aInts vs, .ref 20 0 L]]⟩), (20, ⟨4, 1, on.map fun b => [AV.v (.bool b)]⟩), (24, ⟨123, 0, E.map fun p => [AV.v (.int .i64 p.1), .v (.int .u64 (p.2.toNat : Int))]⟩), (32, ⟨57, 3, [[.v (.int .i64 (ns.getD k nd0).1), .v (.int .i64 (ns.getD k nd0).2.1), aInts (ns.getD k nd0).2.2]]⟩), (28, ⟨25, 1, i.1.2.map fun w => [AV.v (.int .u64 (w.toNat : Int))]⟩)], [32, 28, 24, 11, 20]⟩) (μ := fun i => (ns.getD k nd0).2.2.length - i.1.1) ⟨(0, LL.set k (nodeI of (ns.getD k nd0))), Nat.zero_le _, by simp [hLL], Lib.hid fun j hj => by rw [getD_set_ne (by omega)]; exact hlo.out j hj, Lib.hid fun j hj => by rw [getD_set_ne (by omega)]; exact hhi.out j (by omega), Lib.hid (by rw [getD_set_eq hkL]; rfl)⟩ ?_ (fun ⟨⟨j, MM⟩, hj, hMM, hm1, hm2, hm3⟩ => ?_)
   ·refine weakI_of (fun k => k) ⟨rfl, ?_, ?_, ?_⟩ ?_ <;> simp [lk, AV.ids, idsL, idsLL, AV.ren, renL, renLL]
   dsimp only at hj hMM hm1 hm2 hm3
   dsimp only
   clear hkL
   refine amStr (h := ?_)
   refine amReg PT148_ok (h := ?_)
   refine amStr (h := ?_)
   (focus ((with_reducible refine sp_cond (b := ?_) ?_ (fun hc => ?_) (fun hc => ?_)); rotate_left; (focus (first | rfl | (simp [lk, AS.ev]; rfl))); all_goals (try simp at hc)))
   ·have hjj := hc
    clear hc
    have hacc := accU_succ of (ns.getD k nd0) V hjj
    have hin : ∃ m : Nat, (ns.getD k nd0).2.2.getD j 0 = (m : Int) ∧ m < k := by
     have := form_in hfm (gmemI hjj)
     exact ⟨((ns.getD k nd0).2.2.getD j 0).toNat, by omega, by omega⟩
    obtain ⟨m, hmm, hmk⟩ := hin
    rw [hmm, Int.toNat_natCast, ← hm3.out, ← hm1.out m hmk] at hacc
    have hMk : k < MM.length := by omega
    have hMm : m < MM.length := by omega
    have hmn : m < ns.length := by omega
    have hmn2 : (m : Int) < (ns.length : Int) := by omega
    clear hfm
    by_cases k3 : (ns.getD k nd0).1 = 3
    ·rw [if_pos k3] at hacc
     obtain ⟨R1, hR⟩ : ∃ R1, MM.getD k 0#64 &&& MM.getD m 0#64 = R1 := ⟨_, rfl⟩
     have hR2 : wAnd (MM.getD k 0#64) (MM.getD m 0#64) = R1 := hR
     rw [hR] at hacc
     clear hR
     refine amStr (h := ?_)
     refine amReg PT148_ok (h := ?_)
     refine amStr (h := ?_)
     refine amReg PT148_ok (h := ?_)
     refine amStr (h := ?_)
     refine amDrw PT148_ok (h := ?_)
     refine amStr (h := ?_)
     refine amReg PT148_ok (h := ?_)
     refine ki_lp (⟨(j + 1, MM.set k R1), by omega, by simp [hMM], Lib.hid fun j hj => by rw [getD_set_ne (by omega)]; exact hm1.out j hj, Lib.hid fun j hj => by rw [getD_set_ne (by omega)]; exact hm2.out j hj, Lib.hid (by rw [getD_set_eq hMk]; exact hacc.symm)⟩ : {q : Nat × List (BitVec 64) // q.1 ≤ (ns.getD k nd0).2.2.length ∧ q.2.length = ns.length ∧ Hid (∀ j, j < k → q.2.getD j 0#64 = V.getD j 0#64) ∧ Hid (∀ j, k < j → q.2.getD j 0#64 = 0#64) ∧ Hid (q.2.getD k 0#64 = accU of (ns.getD k nd0) V q.1)}) (by first | omega | (dsimp only; omega)) ?_
     (refine weakI_of (fun q => q) ⟨rfl, ?_, ?_, ?_⟩ ?_ <;> ((try simp only [List.mem_cons, List.not_mem_nil, or_false, forall_eq_or_imp, forall_eq]); (try simp (disch := omega) [lk, AV.ids, idsL, idsLL, AV.ren, renL, renLL, i64w, *])))
    ·rw [if_neg k3] at hacc
     have k3' : ((ns.getD k nd0).1 == 3) = false := by simp [k3]
     obtain ⟨R1, hR⟩ : ∃ R1, MM.getD k 0#64 ||| MM.getD m 0#64 = R1 := ⟨_, rfl⟩
     have hR2 : wOr (MM.getD k 0#64) (MM.getD m 0#64) = R1 := hR
     rw [hR] at hacc
     clear hR
     refine amStr (h := ?_)
     refine amReg PT148_ok (h := ?_)
     refine amStr (h := ?_)
     refine amReg PT148_ok (h := ?_)
     refine amStr (h := ?_)
     refine amDrw PT148_ok (h := ?_)
     refine amStr (h := ?_)
     refine amReg PT148_ok (h := ?_)
     refine ki_lp (⟨(j + 1, MM.set k R1), by omega, by simp [hMM], Lib.hid fun j hj => by rw [getD_set_ne (by omega)]; exact hm1.out j hj, Lib.hid fun j hj => by rw [getD_set_ne (by omega)]; exact hm2.out j hj, Lib.hid (by rw [getD_set_eq hMk]; exact hacc.symm)⟩ : {q : Nat × List (BitVec 64) // q.1 ≤ (ns.getD k nd0).2.2.length ∧ q.2.length = ns.length ∧ Hid (∀ j, j < k → q.2.getD j 0#64 = V.getD j 0#64) ∧ Hid (∀ j, k < j → q.2.getD j 0#64 = 0#64) ∧ Hid (q.2.getD k 0#64 = accU of (ns.getD k nd0) V q.1)}) (by first | omega | (dsimp only; omega)) ?_
     (refine weakI_of (fun q => q) ⟨rfl, ?_, ?_, ?_⟩ ?_ <;> ((try simp only [List.mem_cons, List.not_mem_nil, or_false, forall_eq_or_imp, forall_eq]); (try simp (disch := omega) [lk, AV.ids, idsL, idsLL, AV.ren, renL, renLL, i64w, *])))
   ·obtain rfl : j = (ns.getD k nd0).2.2.length := by omega
    clear hc
    have hws : IntKind.i64.wrap ((k : Int) + 1) = (k : Int) + 1 := i64w (by omega) (by omega)
    refine amStr (h := ?_)
    refine amReg PT148_ok (h := ?_)
    refine ki_lp (⟨(k + 1, MM), by omega, hMM, Lib.hid fun j hj => ?_, Lib.hid fun j hj => hm2.out j (by omega)⟩ : {p : Nat × List (BitVec 64) // p.1 ≤ ns.length ∧ p.2.length = ns.length ∧ Hid (∀ j, j < p.1 → p.2.getD j 0#64 = V.getD j 0#64) ∧ Hid (∀ j, p.1 ≤ j → p.2.getD j 0#64 = 0#64)}) (by first | omega | (dsimp only; omega)) ?_
    ·by_cases e : j < k
     ·exact hm1.out j e
     ·obtain rfl : j = k := by omega
      exact hm3.out.trans hfx.out.symm
    ·(refine weakI_of (fun q => q) ⟨rfl, ?_, ?_, ?_⟩ ?_ <;> ((try simp only [List.mem_cons, List.not_mem_nil, or_false, forall_eq_or_imp, forall_eq]); (try simp (disch := omega) [lk, AV.ids, idsL, idsLL, AV.ren, renL, renLL, i64w, *])))
  ·obtain rfl : k = ns.length := by omega
   clear hc
   have hfin : LL = V := ext_getD 0#64 (by omega) fun i hi => hlo.out i (by omega)
   subst hfin
   clear hfix
   obtain ⟨m, hm⟩ : ∃ m, ns.length = m + 1 := ⟨ns.length - 1, by omega⟩
   have hw : IntKind.i64.wrap (m : Int) = (m : Int) := i64w (by omega) (by omega)
   have hmn : (m : Int) < (m : Int) + 1 := by omega
   have hmL : m < LL.length := by omega
   refine amStr (h := ?_)
   refine amReg PT148_ok (h := ?_)
   refine amStr (h := ?_)
   refine ⟨.inr rfl, .v (.int .u64 ((LL.getD (ns.length - 1) 0#64).toNat : Int)), ?_, rfl, ?_⟩
   ·simp [retA, retL, ret1, lk, st, hm]
   ·refine weakI_of (fun k => k) ⟨rfl, ?_, ?_, ?_⟩ ?_ <;> simp [lk, AV.ids, idsL, idsLL, AV.ren, renL, renLL]
end Go.Proofs.YtecdhmiamlgibaaDoor
