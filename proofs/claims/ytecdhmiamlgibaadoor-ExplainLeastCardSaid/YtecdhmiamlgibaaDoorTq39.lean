/- Which tables are made: tabled; no condition. -/
import Derived.Test.YtecdhmiamlgibaaDoorWo39
import Derived.Test.YtecdhmiamlgibaaDoorWl
import Derived.Test.YtecdhmiamlgibaaDoorLeG
namespace Go.Proofs.YtecdhmiamlgibaaDoor
set_option linter.unusedVariables false
set_option linter.unusedSimpArgs false
set_option linter.unusedSectionVars false
open Go.RowKit
open Wlk
attribute [-simp] List.getD_eq_getElem?_getD
set_option maxRecDepth 100000
theorem bit_andU (Q : Nat) (hQ : Q < 2 ^ 64) : (IntKind.u64.wrap ((Q % 2 ^ IntKind.u64.bits &&& 1 % 2 ^ IntKind.u64.bits : Nat) : Int)) = ((Q % 2 : Nat) : Int) := by
 rw [bits64, Nat.mod_eq_of_lt hQ, Nat.mod_eq_of_lt (by decide), Nat.and_one_is_mod]
 exact u64w (by omega) (by omega)
theorem listS_vs (s : BitVec 128) : okVs (listS s) := by
 rw [← listT_eq]
 unfold listT
 refine ⟨?_, fun v hv => ?_⟩
 ·refine List.Pairwise.map (R := (· ≠ ·)) _ (fun a b h e => h (by omega)) (List.Pairwise.filter _ List.nodup_range)
 ·obtain ⟨i, hi, rfl⟩ := List.mem_map.1 hv
  have := List.mem_range.1 (List.mem_filter.1 hi).1
  omega
theorem listS_mem (s : BitVec 128) (v : Int) : v ∈ listS s ↔ sHas s v = true := by
 rw [← listT_eq]
 unfold listT
 rw [List.mem_map]
 constructor
 ·rintro ⟨i, hi, rfl⟩; exact (List.mem_filter.1 hi).2
 ·intro h
  have := sHas_mem h
  refine ⟨(v - 1).toNat, List.mem_filter.2 ⟨List.mem_range.2 (by omega), ?_⟩, by omega⟩
  rw [show (((v - 1).toNat : Nat) : Int) + 1 = v by omega]; exact h
theorem matL_ok {ns : List Nd} (h16 : (matL ns).length ≤ 16) : okV (matL ns) = true := by
 have h := listS_vs (matS ns)
 unfold okV
 rw [Bool.and_eq_true, Bool.and_eq_true, decide_eq_true_eq, decide_eq_true_eq, List.all_eq_true]
 exact ⟨⟨h16, h.1⟩, fun v hv => by have := h.2 v hv; simp; omega⟩
theorem within_tab (N : Int) (vs : List Int) (L : Nat) (on : List Bool) : Within (.tup [.ptr 11 0 0, .v (.int .i64 0)]) (tabO N vs L on) [20, 11] := by
 refine ⟨fun k hk => by simp [AV.ids, idsL] at hk; simp [hk], fun k ob hk => ?_⟩
 unfold tabO at hk
 simp only [lk] at hk
 split at hk
 ·cases hk
  rename_i e
  subst e
  exact ⟨by simp, fun q hq => by simp [idsLL, idsL, AV.ids] at hq; simp [hq]⟩
 ·split at hk
  ·cases hk
   rename_i e
   subst e
   exact ⟨by simp, fun q hq => by rw [show idsLL (on.map fun b => [AV.v (.bool b)]) = [] from d_ids_bools on] at hq; cases hq⟩
  ·cases hk
set_option maxHeartbeats 16000000 in
theorem tabled_obj (N : Int) (ns : List Nd) (hN : okI N = true) (h : okNs ns = true) (hv : validN N ns = true) (h16 : (matL ns).length ≤ 16) : FnObj Tryd.prog 62 [aNet N ns] (.tup [.ptr 11 0 0, .v (.int .i64 0)]) (tabO N (matL ns) (2 ^ (matL ns).length) (onL (matL ns) ns)) [20, 11] := by
 have hl := okNs_len h
 have hp := valid_len hv
 have he : errN N ns = 0 := by unfold errN; rw [hv]; rfl
 have hva : varsA N ns = .sl 2 ((varsL ns).map fun s => [AV.v (.int .u64 ((lo s).toNat : Int)), .v (.int .u64 ((hi s).toNat : Int))]) := if_pos hv
 have hO : (varsL ns).length = ns.length := scanN_len nodeS ns
 have hokV := matL_ok h16
 obtain ⟨hvo, _⟩ := okV_vs hokV
 obtain ⟨vs, hvs⟩ : ∃ vs, matL ns = vs := ⟨_, rfl⟩
 have hvs2 := hvs
 unfold matL matS at hvs2
 rw [hvs] at hokV hvo h16 ⊢
 generalize hgo : varsL ns = O at hva hO hvs2
 obtain ⟨m, hm⟩ : ∃ m, ns.length = m + 1 := ⟨ns.length - 1, by omega⟩
 rw [hm] at hO hvs2
 simp only [Nat.add_sub_cancel] at hvs2
 have hw : IntKind.i64.wrap (m : Int) = (m : Int) := i64w (by omega) (by omega)
 have hmO : m < O.length := by omega
 have hmm : (m : Int) < (m : Int) + 1 := by omega
 have h16' : ¬ ((16 : Int) < (vs.length : Int)) := by omega
 have hwk : IntKind.u64.wrap (vs.length : Int) = (vs.length : Int) := u64w (by omega) (by omega)
 have hk0 : ¬ ((vs.length : Int) < 0) := by omega
 have hmin : min vs.length IntKind.i64.bits = vs.length := by rw [bits_i64]; omega
 have hp2 : 2 ^ vs.length ≤ 65536 := Nat.pow_le_pow_right (n := 2) (by omega) (show vs.length ≤ 16 by omega)
 have hp1 : 0 < 2 ^ vs.length := Nat.two_pow_pos _
 obtain ⟨L, hL⟩ : ∃ L : Nat, 2 ^ vs.length = L := ⟨_, rfl⟩
 have hpow : IntKind.i64.wrap (2 ^ vs.length) = (L : Int) := by
  have e : ((2 : Int) ^ vs.length) = (L : Int) := by rw [← hL]; simp
  rw [e]; exact i64w (by omega) (by omega)
 rw [hL] at hp1 hp2 ⊢
 have hL2 := Lib.hid hL
 have c1 : (L : Int) ≤ 281474976710656 := by omega
 have c2 : (L : Int) ≤ 9223372036854775807 := by omega
 clear hL hvs
 refine fn_obj TT_ok Tryd.func62 (c := _) rfl (by simp [Tryd.ntmps62]) (within_tab _ _ _ _) (fun B hI0 hro => ?_)
 rw [Tryd.ntmps62]
 unfold aNet aNds
 simp only [enumA]
 refine amStr (h := ?_)
 refine amReg PT148_ok (h := ?_)
 refine amStr (h := ?_)
 refine amReg PT148_ok (h := ?_)
 refine amStr (h := ?_)
 refine amReg PT148_ok (h := ?_)
 refine amStr (h := ?_)
 refine amDrw PT148_ok (h := ?_)
 refine amStr (h := ?_)
 refine amReg PT148_ok (h := ?_)
 refine amStr (h := ?_)
 refine amReg PT148_ok (h := ?_)
 refine amStr (h := ?_)
 refine amReg PT148_ok (h := ?_)
 refine amStr (h := ?_)
 clear hva hgo hpow hvs2 hmO
 refine s_loop (J := fun i : {p : Nat × List Bool // p.1 % 64 = 0 ∧ p.1 < L + 64 ∧ p.2.length = L ∧ Hid (∀ j, j < p.1 → j < L → p.2.getD j false = evalR ns (setX vs j))} => ⟨82, [(1, .ptr 0 0 0), (5, .ptr 11 0 0), (6, .v (.int .i64 (i.1.1 : Int)))], [(11, ⟨68, 3, [[.v (.int .i64 N), aInts vs, .ref 20 0 L]]⟩), (20, ⟨4, 1, i.1.2.map fun b => [AV.v (.bool b)]⟩), (0, ⟨24, 2, [[.v (.int .i64 N), .sl 3 (ns.map fun x => [AV.v (.int .i64 x.1), .v (.int .i64 x.2.1), aInts x.2.2])]]⟩)], [20, 11, 0]⟩) (μ := fun i => L + 64 - i.1.1) ⟨(0, List.replicate L false), rfl, by dsimp only; omega, List.length_replicate .., Lib.hid fun j hj => by omega⟩ ?_ (fun ⟨⟨frm, LL⟩, hf64, hfL, hLL, hpre⟩ => ?_)
 ·(refine weak_id rfl ?_ ?_ <;> ((try simp only [List.mem_cons, List.not_mem_nil, or_false, forall_eq_or_imp, forall_eq]); (try simp (disch := omega) [i64w, *])))
 dsimp only at hf64 hfL hLL hpre
 dsimp only
 refine amStr (h := ?_)
 refine amReg PT148_ok (h := ?_)
 refine amStr (h := ?_)
 by_cases hlt : frm < L
 ·have hlt2 : (frm : Int) < (L : Int) := by omega
  refine amStr (h := ?_)
  refine s_regionL ?_
  ((iterate 3 (((with_reducible refine spl_step TT_ok PT148_ok (id := 0) (σ' := ?_) ?_ ?_); rotate_left; (focus (simp [*]; rfl))))))
  have hwl := word_lend N ns vs frm L LL hN h hv hokV (by omega) (c := _) rfl
  have hbits : ∀ j, j < 64 → (wordR vs ns frm).getLsbD j = evalR ns (setX vs (frm + j)) := fun j hj => wordR_bit hv hvo hf64 hj
  have hWd := Lib.hid hbits
  generalize wordR vs ns frm = Wd at hwl hWd
  clear hbits
  refine spl_lend TT_ok (f := 93) (avs := [.ptr 11 0 0, aNet N ns, .v (.int .i64 (frm : Int))]) (L := [.ptr 11 0 0, aNet N ns, .v (.int .i64 (frm : Int))]) rfl rfl rfl rfl rfl (by kernel_rfl) Tryd.func93 rfl (by simp [Tryd.ntmps93]) (tabO N vs L LL) [11, 20] (fun q => ?_) (fun q hq => ?_) (fun q hq ob hob i hi => ?_) (av := .v (.int .u64 (Wd.toNat : Int))) rfl (tabO N vs L LL) [11, 20] (fun q hq => .inl hq) hwl ?_
  ·unfold tabO
   simp only [lk, List.mem_cons, List.not_mem_nil, or_false]
   by_cases e1 : 11 = q
   ·subst e1; simp
   ·by_cases e2 : 20 = q
    ·subst e2; simp
    ·rw [if_neg e1, if_neg e2, if_neg (by omega)]
  ·simp [idsL, AV.ids, aNet, aNds] at hq; simp [hq]
  ·simp only [List.mem_cons, List.not_mem_nil, or_false] at hq
   rcases hq with rfl | rfl
   ·simp [lk] at hob; subst hob; simp [idsLL, idsL, AV.ids] at hi; simp [hi]
   ·simp [lk] at hob; subst hob; rw [show idsLL (LL.map fun b => [AV.v (.bool b)]) = [] from d_ids_bools LL] at hi; cases hi
  unfold tabO
  clear hwl
  (refine spl_eq (τ := ?_) ?_ ?_; rotate_left; (focus ((try simp only [AS.frz, List.map_cons, List.map_nil]); (try simp [frzV, frzO, frzC, List.filter]); rfl)))
  ((iterate 1 (((with_reducible refine spl_step TT_ok PT148_ok (id := 0) (σ' := ?_) ?_ ?_); rotate_left; (focus (simp [*]; rfl))))))
  refine spl_nil ?_
  refine amStr (h := ?_)
  have hsub : IntKind.i64.wrap ((L : Int) - (frm : Int)) = (L : Int) - (frm : Int) := i64w (by omega) (by omega)
  by_cases hC : L - frm < 64
  ·have hC2 : (L : Int) - (frm : Int) < 64 := by omega
   obtain ⟨C, hCe⟩ : ∃ C, L - frm = C := ⟨_, rfl⟩
   have hC3 : (L : Int) - (frm : Int) = (C : Int) := by omega
   have hC4 : (C : Int) < 64 := by omega
   have hCL : frm + C ≤ L := by omega
   have hC64 : C ≤ 64 := by omega
   have hnx : L ≤ frm + C ∨ C = 64 := by omega
   rw [hC3] at hsub
   clear hCe hC hC2
   refine amStr (h := ?_)
   refine amReg PT148_ok (h := ?_)
   refine amStr (h := ?_)
   refine s_loop (J := fun i : {q : Nat × List Bool // q.1 ≤ C ∧ q.2.length = L ∧ Hid (∀ j, j < frm + q.1 → j < L → q.2.getD j false = evalR ns (setX vs j))} => ⟨82, [(1, .ptr 0 0 0), (5, .ptr 11 0 0), (6, .v (.int .i64 (frm : Int))), (7, .v (.int .u64 (Wd.toNat : Int))), (62, .v (.int .i64 (C : Int))), (63, .v (.int .i64 (i.1.1 : Int)))], [(11, ⟨68, 3, [[.v (.int .i64 N), aInts vs, .ref 20 0 L]]⟩), (20, ⟨4, 1, i.1.2.map fun b => [AV.v (.bool b)]⟩), (0, ⟨24, 2, [[.v (.int .i64 N), .sl 3 (ns.map fun x => [AV.v (.int .i64 x.1), .v (.int .i64 x.2.1), aInts x.2.2])]]⟩)], [20, 11, 0]⟩) (μ := fun i => C - i.1.1) ⟨(0, LL), Nat.zero_le _, hLL, Lib.hid fun i hi1 hi2 => hpre.out i (by omega) hi2⟩ ?_ (fun ⟨⟨j, MM⟩, hj, hMM, hm⟩ => ?_)
   ·(refine weak_id rfl ?_ ?_ <;> ((try simp only [List.mem_cons, List.not_mem_nil, or_false, forall_eq_or_imp, forall_eq]); (try simp (disch := omega) [i64w, *])))
   dsimp only at hj hMM hm
   dsimp only
   refine amStr (h := ?_)
   refine amReg PT148_ok (h := ?_)
   refine amStr (h := ?_)
   (focus ((with_reducible refine sp_cond (b := ?_) ?_ (fun hc => ?_) (fun hc => ?_)); rotate_left; (focus (first | rfl | (simp [lk, AS.ev]; rfl))); all_goals (try simp at hc)))
   ·have hjj := hc
    clear hc
    have hwj : IntKind.u64.wrap (j : Int) = (j : Int) := u64w (by omega) (by omega)
    have hj0 : ¬ ((j : Int) < 0) := by omega
    have hmin : min j IntKind.u64.bits = j := by rw [bits64]; omega
    have f1 := fdiv_pow Wd.toNat j
    have hbit := hWd.out j (by omega)
    have q1 : Wd.toNat / 2 ^ j ≤ Wd.toNat := Nat.div_le_self _ _
    have q2 := Wd.isLt
    rw [BitVec.getLsbD, bit_div] at hbit
    obtain ⟨Q, hQ⟩ : ∃ Q, Wd.toNat / 2 ^ j = Q := ⟨_, rfl⟩
    rw [hQ] at f1 hbit q1
    have g1 := bit_andU Q (by omega)
    have hfj : frm + j < L := by omega
    have hfj2 : (frm : Int) + (j : Int) < (L : Int) := by omega
    have hwf : IntKind.i64.wrap ((frm : Int) + (j : Int)) = (frm : Int) + (j : Int) := i64w (by omega) (by omega)
    have hfjM : frm + j < MM.length := by omega
    have hfn : ((frm : Int) + (j : Int)).toNat = frm + j := by omega
    have hf0 : 0 ≤ (frm : Int) + (j : Int) := by omega
    have hwsj : IntKind.i64.wrap ((j : Int) + 1) = (j : Int) + 1 := i64w (by omega) (by omega)
    have hbit2 := Lib.hid hbit
    clear hQ hbit
    rcases (by omega : Q % 2 = 0 ∨ Q % 2 = 1) with hq | hq
    ·have hbit := hbit2.out
     rw [hq] at hbit
     replace hbit := Lib.hid hbit
     refine amStr (h := ?_)
     refine amReg PT148_ok (h := ?_)
     refine amStr (h := ?_)
     refine amReg PT148_ok (h := ?_)
     refine amStr (h := ?_)
     refine amReg PT148_ok (h := ?_)
     refine k_lp (⟨(j + 1, MM.set (frm + j) false), by omega, by simp [hMM], Lib.hid fun i hi1 hi2 => ?_⟩ : {q : Nat × List Bool // q.1 ≤ C ∧ q.2.length = L ∧ Hid (∀ j, j < frm + q.1 → j < L → q.2.getD j false = evalR ns (setX vs j))}) (by first | omega | (dsimp only; omega)) ?_
     ·by_cases e : i = frm + j
      ·subst e; rw [getD_set_eq (by omega), ← hbit.out]; rfl
      ·rw [getD_set_ne (by omega)]; exact hm.out i (by omega) hi2
     ·(refine weak_id rfl ?_ ?_ <;> ((try simp only [List.mem_cons, List.not_mem_nil, or_false, forall_eq_or_imp, forall_eq]); (try simp (disch := omega) [i64w, *])))
    ·have hbit := hbit2.out
     rw [hq] at hbit
     replace hbit := Lib.hid hbit
     refine amStr (h := ?_)
     refine amReg PT148_ok (h := ?_)
     refine amStr (h := ?_)
     refine amReg PT148_ok (h := ?_)
     refine amStr (h := ?_)
     refine amReg PT148_ok (h := ?_)
     refine k_lp (⟨(j + 1, MM.set (frm + j) true), by omega, by simp [hMM], Lib.hid fun i hi1 hi2 => ?_⟩ : {q : Nat × List Bool // q.1 ≤ C ∧ q.2.length = L ∧ Hid (∀ j, j < frm + q.1 → j < L → q.2.getD j false = evalR ns (setX vs j))}) (by first | omega | (dsimp only; omega)) ?_
     ·by_cases e : i = frm + j
      ·subst e; rw [getD_set_eq (by omega), ← hbit.out]; rfl
      ·rw [getD_set_ne (by omega)]; exact hm.out i (by omega) hi2
     ·(refine weak_id rfl ?_ ?_ <;> ((try simp only [List.mem_cons, List.not_mem_nil, or_false, forall_eq_or_imp, forall_eq]); (try simp (disch := omega) [i64w, *])))
   ·obtain rfl : C = j := by omega
    clear hc
    have hwf : IntKind.i64.wrap ((frm : Int) + 64) = (frm : Int) + 64 := i64w (by omega) (by omega)
    refine amStr (h := ?_)
    refine amReg PT148_ok (h := ?_)
    refine k_lp (⟨(frm + 64, MM), by omega, by omega, hMM, Lib.hid fun i hi1 hi2 => hm.out i (by omega) hi2⟩ : {p : Nat × List Bool // p.1 % 64 = 0 ∧ p.1 < L + 64 ∧ p.2.length = L ∧ Hid (∀ j, j < p.1 → j < L → p.2.getD j false = evalR ns (setX vs j))}) (by first | omega | (dsimp only; omega)) ?_
    (refine weak_id rfl ?_ ?_ <;> ((try simp only [List.mem_cons, List.not_mem_nil, or_false, forall_eq_or_imp, forall_eq]); (try simp (disch := omega) [i64w, *])))
  ·have hC2 : ¬ (L : Int) - (frm : Int) < 64 := by omega
   clear hC
   refine amStr (h := ?_)
   refine amReg PT148_ok (h := ?_)
   refine amStr (h := ?_)
   obtain ⟨C, hCe⟩ : ∃ C : Nat, (64 : Int) = (C : Int) := ⟨64, rfl⟩
   have hCL : frm + C ≤ L := by omega
   have hC64 : C ≤ 64 := by omega
   have hnx : L ≤ frm + C ∨ C = 64 := by omega
   rw [show (AV.v (.int .i64 (64 : Int))) = AV.v (.int .i64 (C : Int)) from by rw [hCe]]
   have hCe2 := Lib.hid hCe
   clear hCe hC2
   refine s_loop (J := fun i : {q : Nat × List Bool // q.1 ≤ C ∧ q.2.length = L ∧ Hid (∀ j, j < frm + q.1 → j < L → q.2.getD j false = evalR ns (setX vs j))} => ⟨82, [(1, .ptr 0 0 0), (5, .ptr 11 0 0), (6, .v (.int .i64 (frm : Int))), (7, .v (.int .u64 (Wd.toNat : Int))), (62, .v (.int .i64 (C : Int))), (63, .v (.int .i64 (i.1.1 : Int)))], [(11, ⟨68, 3, [[.v (.int .i64 N), aInts vs, .ref 20 0 L]]⟩), (20, ⟨4, 1, i.1.2.map fun b => [AV.v (.bool b)]⟩), (0, ⟨24, 2, [[.v (.int .i64 N), .sl 3 (ns.map fun x => [AV.v (.int .i64 x.1), .v (.int .i64 x.2.1), aInts x.2.2])]]⟩)], [20, 11, 0]⟩) (μ := fun i => C - i.1.1) ⟨(0, LL), Nat.zero_le _, hLL, Lib.hid fun i hi1 hi2 => hpre.out i (by omega) hi2⟩ ?_ (fun ⟨⟨j, MM⟩, hj, hMM, hm⟩ => ?_)
   ·(refine weak_id rfl ?_ ?_ <;> ((try simp only [List.mem_cons, List.not_mem_nil, or_false, forall_eq_or_imp, forall_eq]); (try simp (disch := omega) [i64w, *])))
   dsimp only at hj hMM hm
   dsimp only
   refine amStr (h := ?_)
   refine amReg PT148_ok (h := ?_)
   refine amStr (h := ?_)
   (focus ((with_reducible refine sp_cond (b := ?_) ?_ (fun hc => ?_) (fun hc => ?_)); rotate_left; (focus (first | rfl | (simp [lk, AS.ev]; rfl))); all_goals (try simp at hc)))
   ·have hjj := hc
    clear hc
    have hwj : IntKind.u64.wrap (j : Int) = (j : Int) := u64w (by omega) (by omega)
    have hj0 : ¬ ((j : Int) < 0) := by omega
    have hmin : min j IntKind.u64.bits = j := by rw [bits64]; omega
    have f1 := fdiv_pow Wd.toNat j
    have hbit := hWd.out j (by omega)
    have q1 : Wd.toNat / 2 ^ j ≤ Wd.toNat := Nat.div_le_self _ _
    have q2 := Wd.isLt
    rw [BitVec.getLsbD, bit_div] at hbit
    obtain ⟨Q, hQ⟩ : ∃ Q, Wd.toNat / 2 ^ j = Q := ⟨_, rfl⟩
    rw [hQ] at f1 hbit q1
    have g1 := bit_andU Q (by omega)
    have hfj : frm + j < L := by omega
    have hfj2 : (frm : Int) + (j : Int) < (L : Int) := by omega
    have hwf : IntKind.i64.wrap ((frm : Int) + (j : Int)) = (frm : Int) + (j : Int) := i64w (by omega) (by omega)
    have hfjM : frm + j < MM.length := by omega
    have hfn : ((frm : Int) + (j : Int)).toNat = frm + j := by omega
    have hf0 : 0 ≤ (frm : Int) + (j : Int) := by omega
    have hwsj : IntKind.i64.wrap ((j : Int) + 1) = (j : Int) + 1 := i64w (by omega) (by omega)
    have hbit2 := Lib.hid hbit
    clear hQ hbit
    rcases (by omega : Q % 2 = 0 ∨ Q % 2 = 1) with hq | hq
    ·have hbit := hbit2.out
     rw [hq] at hbit
     replace hbit := Lib.hid hbit
     refine amStr (h := ?_)
     refine amReg PT148_ok (h := ?_)
     refine amStr (h := ?_)
     refine amReg PT148_ok (h := ?_)
     refine amStr (h := ?_)
     refine amReg PT148_ok (h := ?_)
     refine k_lp (⟨(j + 1, MM.set (frm + j) false), by omega, by simp [hMM], Lib.hid fun i hi1 hi2 => ?_⟩ : {q : Nat × List Bool // q.1 ≤ C ∧ q.2.length = L ∧ Hid (∀ j, j < frm + q.1 → j < L → q.2.getD j false = evalR ns (setX vs j))}) (by first | omega | (dsimp only; omega)) ?_
     ·by_cases e : i = frm + j
      ·subst e; rw [getD_set_eq (by omega), ← hbit.out]; rfl
      ·rw [getD_set_ne (by omega)]; exact hm.out i (by omega) hi2
     ·(refine weak_id rfl ?_ ?_ <;> ((try simp only [List.mem_cons, List.not_mem_nil, or_false, forall_eq_or_imp, forall_eq]); (try simp (disch := omega) [i64w, *])))
    ·have hbit := hbit2.out
     rw [hq] at hbit
     replace hbit := Lib.hid hbit
     refine amStr (h := ?_)
     refine amReg PT148_ok (h := ?_)
     refine amStr (h := ?_)
     refine amReg PT148_ok (h := ?_)
     refine amStr (h := ?_)
     refine amReg PT148_ok (h := ?_)
     refine k_lp (⟨(j + 1, MM.set (frm + j) true), by omega, by simp [hMM], Lib.hid fun i hi1 hi2 => ?_⟩ : {q : Nat × List Bool // q.1 ≤ C ∧ q.2.length = L ∧ Hid (∀ j, j < frm + q.1 → j < L → q.2.getD j false = evalR ns (setX vs j))}) (by first | omega | (dsimp only; omega)) ?_
     ·by_cases e : i = frm + j
      ·subst e; rw [getD_set_eq (by omega), ← hbit.out]; rfl
      ·rw [getD_set_ne (by omega)]; exact hm.out i (by omega) hi2
     ·(refine weak_id rfl ?_ ?_ <;> ((try simp only [List.mem_cons, List.not_mem_nil, or_false, forall_eq_or_imp, forall_eq]); (try simp (disch := omega) [i64w, *])))
   ·obtain rfl : C = j := by omega
    clear hc
    have hwf : IntKind.i64.wrap ((frm : Int) + 64) = (frm : Int) + 64 := i64w (by omega) (by omega)
    refine amStr (h := ?_)
    refine amReg PT148_ok (h := ?_)
    refine k_lp (⟨(frm + 64, MM), by omega, by omega, hMM, Lib.hid fun i hi1 hi2 => hm.out i (by omega) hi2⟩ : {p : Nat × List Bool // p.1 % 64 = 0 ∧ p.1 < L + 64 ∧ p.2.length = L ∧ Hid (∀ j, j < p.1 → j < L → p.2.getD j false = evalR ns (setX vs j))}) (by first | omega | (dsimp only; omega)) ?_
    (refine weak_id rfl ?_ ?_ <;> ((try simp only [List.mem_cons, List.not_mem_nil, or_false, forall_eq_or_imp, forall_eq]); (try simp (disch := omega) [i64w, *])))
 ·have hlt2 : ¬ ((frm : Int) < (L : Int)) := by omega
  have hfin : LL = onL vs ns := ext_getD false (by rw [hLL]; unfold onL; simp; exact hL2.out.symm) fun i hi => by
   have hi2 : i < L := by unfold onL at hi; rw [List.length_map, List.length_range] at hi; rw [← hL2.out]; exact hi
   rw [hpre.out i (by omega) hi2]
   unfold onL
   simp [List.getD, hL2.out, hi2]
  rw [← hfin]
  clear hfin
  refine amStr (h := ?_)
  refine amReg PT148_ok (h := ?_)
  refine amStr (h := ?_)
  refine post_obj (av := .tup [.ptr 11 0 0, .v (.int .i64 0)]) (.inr rfl) (by rw [Tryd.results62]) ?_ (fun k => k) rfl (fun k ob hk => ?_) (fun k ob k' ob' hk hk' e => e)
  ·simp [retA, retL, ret1, lk, st]
  ·unfold tabO at hk
   simp only [lk] at hk
   split at hk
   ·rename_i e
    cases hk
    subst e
    simp [lk, AV.ren, renL, renLL]
   ·split at hk
    ·rename_i e
     cases hk
     subst e
     simp [lk, AV.ren, renL, renLL]
    ·cases hk
def tbdR (N : Int) (ns : List Nd) : AV :=
 if validN N ns = false then .tup [.v (.pointer none), .v (.int .i64 1)]
 else if 16 < (matL ns).length then .tup [.v (.pointer none), .v (.int .i64 2)]
 else .tup [aTab N (matL ns) (onL (matL ns) ns), .v (.int .i64 0)]
theorem tabled_p1 (N : Int) (ns : List Nd) (hN : okI N = true) (h : okNs ns = true) (hv : validN N ns = false) : FnPure Tryd.prog 62 [aNet N ns] (.tup [.v (.pointer none), .v (.int .i64 1)]) := by
 have he : errN N ns = 1 := by unfold errN; rw [hv]; rfl
 unfold aNet aNds
 refine fn_sp TT_ok Tryd.func62 (c := _) rfl (by simp [Tryd.ntmps62]) (fun B hI0 hro => ?_)
 rw [Tryd.ntmps62]
 simp only [enumA]
 refine amGo PT148_ok (h := ?_)
 (refine amRt Tryd.results62 (h := ?_); try simp [*])
theorem tabled_p2 (N : Int) (ns : List Nd) (hN : okI N = true) (h : okNs ns = true) (hv : validN N ns = true) (h16 : 16 < (matL ns).length) : FnPure Tryd.prog 62 [aNet N ns] (.tup [.v (.pointer none), .v (.int .i64 2)]) := by
 have hl := okNs_len h
 have hp := valid_len hv
 have he : errN N ns = 0 := by unfold errN; rw [hv]; rfl
 have hva : varsA N ns = .sl 2 ((varsL ns).map fun s => [AV.v (.int .u64 ((lo s).toNat : Int)), .v (.int .u64 ((hi s).toNat : Int))]) := if_pos hv
 have hO : (varsL ns).length = ns.length := scanN_len nodeS ns
 obtain ⟨vs, hvs⟩ : ∃ vs, matL ns = vs := ⟨_, rfl⟩
 have hvs2 := hvs
 unfold matL matS at hvs2
 rw [hvs] at h16
 generalize hgo : varsL ns = O at hva hO hvs2
 obtain ⟨m, hm⟩ : ∃ m, ns.length = m + 1 := ⟨ns.length - 1, by omega⟩
 rw [hm] at hO hvs2
 simp only [Nat.add_sub_cancel] at hvs2
 have hw : IntKind.i64.wrap (m : Int) = (m : Int) := i64w (by omega) (by omega)
 have hmO : m < O.length := by omega
 have hmm : (m : Int) < (m : Int) + 1 := by omega
 have h16' : (16 : Int) < (vs.length : Int) := by omega
 clear hvs
 unfold aNet aNds
 refine fn_sp TT_ok Tryd.func62 (c := _) rfl (by simp [Tryd.ntmps62]) (fun B hI0 hro => ?_)
 rw [Tryd.ntmps62]
 simp only [enumA]
 refine amStr (h := ?_)
 refine amReg PT148_ok (h := ?_)
 refine amStr (h := ?_)
 refine amReg PT148_ok (h := ?_)
 refine amStr (h := ?_)
 refine amReg PT148_ok (h := ?_)
 refine amStr (h := ?_)
 refine amDrw PT148_ok (h := ?_)
 refine amStr (h := ?_)
 refine amReg PT148_ok (h := ?_)
 refine amStr (h := ?_)
 refine amReg PT148_ok (h := ?_)
 refine amStr (h := ?_)
 (refine amRt Tryd.results62 (h := ?_); try simp [*])
theorem tabled_p (N : Int) (ns : List Nd) (hN : okI N = true) (h : okNs ns = true) : FnPure Tryd.prog 62 [aNet N ns] (tbdR N ns) := by
 unfold tbdR
 split
 ·exact tabled_p1 N ns hN h (by assumption)
 ·have hv : validN N ns = true := by simpa using (by assumption : ¬ validN N ns = false)
  split
  ·exact tabled_p2 N ns hN h hv (by assumption)
  ·refine obj_pure (tabled_obj N ns hN h hv (by omega)) (fun B G n w a v T hr hT hrv => ?_)
   refine hrv.tupM rfl fun i u hi hu => ?_
   match i, hi with
   | 0, _ =>
    refine read_ptr hr hT (k := 11) (t := 68) (sz := 3) (row := [.v (.int .i64 N), aInts (matL ns), .ref 20 0 (2 ^ (matL ns).length)]) (ds := [.v (.int .i64 N), aInts (matL ns), aBools (onL (matL ns) ns)]) (by simp [tabO, lk]) (by decide) rfl rfl (fun j u hj hu => ?_) hu
    match j, hj with
    | 0, _ => exact hu.isV (by rfl)
    | 1, _ => exact Rv.pure hT.st hu (by simp [AV.ids])
    | 2, _ =>
     refine read_ref hr hT ?_ hu
     have hl : (onL (matL ns) ns).length = 2 ^ (matL ns).length := by unfold onL; simp
     have ht : ((onL (matL ns) ns).map fun b => [AV.v (.bool b)]).take (2 ^ (matL ns).length) = (onL (matL ns) ns).map fun b => [AV.v (.bool b)] := List.take_of_length_le (by rw [List.length_map, hl]; exact Nat.le_refl _)
     simp only [AS.shut1, tabO, lk]
     rw [if_neg (by decide)]
     simp [hl, ht, aBools]
   | 1, _ => exact hu.isV (by rfl)
@[simp] def g_tTabled : List AV → Option (AV × Bool)
 | [.agg [.v (.int .i64 N), a0]] => (match toNds a0 with | some ns => if (okI N && okNs ns) = true then some (tbdR N ns, false) else none | none => none)
 | _ => none
theorem e_tTabled : EntOk Tryd.prog 62 g_tTabled := ent_pure (by kernel_rfl) fun args r fr h => by
 unfold g_tTabled at h
 split at h
 ·rename_i N a0
  split at h
  ·rename_i ns t0
   split at h
   ·rename_i hc
    simp only [Bool.and_eq_true] at hc
    obtain ⟨m0, o0⟩ := hc
    cases h
    exact ⟨FnPure.cov (tabled_p N ns m0 o0) (.cons (cov_th _ (cov_nds t0)) .nil), rfl⟩
   ·cases h
  ·cases h
 ·cases h

def l149 : List (FuncId × (List AV → Option (AV × Bool))) :=
 (62, g_tTabled) :: l148
theorem l149_ok : ∀ p ∈ l149, EntOk Tryd.prog p.1 p.2 := ent_cons e_tTabled (l148_ok)
def PT149 : PTab := tab l149
theorem PT149_ok : PTok Tryd.prog PT149 := tab_ok l149_ok
@[simp] theorem PT149_tTabled : PT149 62 = g_tTabled := rfl
@[simp] theorem PT149_old (f : FuncId) (h : decide (f ≠ 62) = true) : PT149 f = PT148 f := tab_old (of_decide_eq_true h)
end Go.Proofs.YtecdhmiamlgibaaDoor
