/- node.Eval; no condition. -/
import Derived.Test.YtecdhmiamlgibaaDoorNo39
import Derived.Test.YtecdhmiamlgibaaDoorWl
import Derived.Test.YtecdhmiamlgibaaDoorAm27
namespace Go.Proofs.YtecdhmiamlgibaaDoor
set_option linter.unusedVariables false
set_option linter.unusedSimpArgs false
set_option linter.unusedSectionVars false
open Go.RowKit
open Wlk
attribute [-simp] List.getD_eq_getElem?_getD
set_option maxRecDepth 100000
attribute [local simp] AV.ren renL
theorem ev1_looks (LL : List Bool) (n : Nat) (xs : List Int) (hx : okInts xs = true) (hn : LL.length = n) (hn2 : n ≤ 200) (hin : ∀ x ∈ xs, 0 ≤ x ∧ x < n) : Looks Tryd.prog [(5, ⟨4, 1, LL.map fun b => [AV.v (.bool b)]⟩), (6, ⟨65, 1, [[.ref 5 0 n]]⟩)] [5, 6] 58 [.ptr 6 0 0] (avI xs) (onI fun x => !LL.getD x.toNat false) := by
 refine ⟨by kernel_rfl, _, _, Tryd.func58, rfl, by simp [Tryd.ntmps58], fun x hxm B hI hro => ?_⟩
 obtain ⟨y, hy, rfl⟩ := List.mem_map.1 hxm
 have ho := okInts_mem hx y hy
 obtain ⟨y0, y1⟩ := hin y hy
 obtain ⟨m, rfl⟩ := Int.eq_ofNat_of_zero_le y0
 have hm : m < LL.length := by omega
 have hm2 : m < n := by omega
 have hm3 : (m : Int) < (n : Int) := by omega
 rw [Tryd.ntmps58, Tryd.results58]
 simp only [enumA]
 refine amGo PT152_ok (h := ?_)
 refine ⟨.inr rfl, ?_, rfl, rfl⟩
 simp [retA, retL, ret1, lk, st, onI]
theorem ev1_call (LL : List Bool) (n : Nat) (xs : List Int) (hx : okInts xs = true) (hn : LL.length = n) (hn2 : n ≤ 200) (hin : ∀ x ∈ xs, 0 ≤ x ∧ x < n) {c : Code} (hc : (Go.Proofs.Tryd.f57).body = some c) : ∀ B' : Base, B'.I0 = [5, 6] → B'.ro = none → SP Tryd.prog B' c ⟨(Go.Proofs.Tryd.f57).ntmps, enumA 0 [aInts xs, .clo 58 [.ptr 6 0 0]], [(5, ⟨4, 1, LL.map fun b => [AV.v (.bool b)]⟩), (6, ⟨65, 1, [[.ref 5 0 n]]⟩)], [5, 6]⟩ (fun e τ => (e = .normal ∨ e = .ret) ∧ ∃ av', retA TT τ (Go.Proofs.Tryd.f57).results.toList = some av' ∧ (av' = .v (.bool (xs.any fun x => !LL.getD x.toNat false)) ∧ (∀ k, lk τ.objs k = if k = 5 then some ⟨4, 1, LL.map fun b => [AV.v (.bool b)]⟩ else lk [(5, ⟨4, 1, LL.map fun b => [AV.v (.bool b)]⟩), (6, ⟨65, 1, [[.ref 5 0 n]]⟩)] k) ∧ ∀ k, k ∈ τ.ids ↔ k ∈ [5, 6])) := fun B' hI hro => by
 have hl := okInts_len hx
 refine sp_mono (cntFI_sp (objs := [(5, ⟨4, 1, LL.map fun b => [AV.v (.bool b)]⟩), (6, ⟨65, 1, [[.ref 5 0 n]]⟩)]) (ids := [5, 6]) (fun k ob hk => ?_) (by omega) (fun k hk => ?_) (ev1_looks LL n xs hx hn hn2 hin) hc hI) fun e τ hq => ?_
 ·simp only [lk] at hk
  split at hk
  ·cases hk; rename_i e; subst e
   exact ⟨by simp, fun q hq => by rw [show idsLL (LL.map fun b => [AV.v (.bool b)]) = [] from d_ids_bools LL] at hq; cases hq⟩
  ·split at hk
   ·cases hk; rename_i e; subst e; simp [idsLL, idsL, AV.ids]
   ·cases hk
 ·have : k = 6 := by simpa [idsL, AV.ids] using hk
  simp [this]
 obtain ⟨h1, h2, h3, h4⟩ := hq
 refine ⟨h1, _, h2, rfl, fun k => ?_, fun k => by rw [h4]⟩
 rw [h3]
 simp only [lk]
 by_cases e5 : k = 5
 ·subst e5; simp
 ·rw [if_neg e5]
theorem ev2_looks (LL : List Bool) (n : Nat) (xs : List Int) (hx : okInts xs = true) (hn : LL.length = n) (hn2 : n ≤ 200) (hin : ∀ x ∈ xs, 0 ≤ x ∧ x < n) : Looks Tryd.prog [(5, ⟨4, 1, LL.map fun b => [AV.v (.bool b)]⟩), (6, ⟨65, 1, [[.ref 5 0 n]]⟩)] [5, 6] 59 [.ptr 6 0 0] (avI xs) (onI fun x => LL.getD x.toNat false) := by
 refine ⟨by kernel_rfl, _, _, Tryd.func59, rfl, by simp [Tryd.ntmps59], fun x hxm B hI hro => ?_⟩
 obtain ⟨y, hy, rfl⟩ := List.mem_map.1 hxm
 have ho := okInts_mem hx y hy
 obtain ⟨y0, y1⟩ := hin y hy
 obtain ⟨m, rfl⟩ := Int.eq_ofNat_of_zero_le y0
 have hm : m < LL.length := by omega
 have hm2 : m < n := by omega
 have hm3 : (m : Int) < (n : Int) := by omega
 rw [Tryd.ntmps59, Tryd.results59]
 simp only [enumA]
 refine amGo PT152_ok (h := ?_)
 refine ⟨.inr rfl, ?_, rfl, rfl⟩
 simp [retA, retL, ret1, lk, st, onI]
theorem ev2_call (LL : List Bool) (n : Nat) (xs : List Int) (hx : okInts xs = true) (hn : LL.length = n) (hn2 : n ≤ 200) (hin : ∀ x ∈ xs, 0 ≤ x ∧ x < n) {c : Code} (hc : (Go.Proofs.Tryd.f57).body = some c) : ∀ B' : Base, B'.I0 = [5, 6] → B'.ro = none → SP Tryd.prog B' c ⟨(Go.Proofs.Tryd.f57).ntmps, enumA 0 [aInts xs, .clo 59 [.ptr 6 0 0]], [(5, ⟨4, 1, LL.map fun b => [AV.v (.bool b)]⟩), (6, ⟨65, 1, [[.ref 5 0 n]]⟩)], [5, 6]⟩ (fun e τ => (e = .normal ∨ e = .ret) ∧ ∃ av', retA TT τ (Go.Proofs.Tryd.f57).results.toList = some av' ∧ (av' = .v (.bool (xs.any fun x => LL.getD x.toNat false)) ∧ (∀ k, lk τ.objs k = if k = 5 then some ⟨4, 1, LL.map fun b => [AV.v (.bool b)]⟩ else lk [(5, ⟨4, 1, LL.map fun b => [AV.v (.bool b)]⟩), (6, ⟨65, 1, [[.ref 5 0 n]]⟩)] k) ∧ ∀ k, k ∈ τ.ids ↔ k ∈ [5, 6])) := fun B' hI hro => by
 have hl := okInts_len hx
 refine sp_mono (cntFI_sp (objs := [(5, ⟨4, 1, LL.map fun b => [AV.v (.bool b)]⟩), (6, ⟨65, 1, [[.ref 5 0 n]]⟩)]) (ids := [5, 6]) (fun k ob hk => ?_) (by omega) (fun k hk => ?_) (ev2_looks LL n xs hx hn hn2 hin) hc hI) fun e τ hq => ?_
 ·simp only [lk] at hk
  split at hk
  ·cases hk; rename_i e; subst e
   exact ⟨by simp, fun q hq => by rw [show idsLL (LL.map fun b => [AV.v (.bool b)]) = [] from d_ids_bools LL] at hq; cases hq⟩
  ·split at hk
   ·cases hk; rename_i e; subst e; simp [idsLL, idsL, AV.ids]
   ·cases hk
 ·have : k = 6 := by simpa [idsL, AV.ids] using hk
  simp [this]
 obtain ⟨h1, h2, h3, h4⟩ := hq
 refine ⟨h1, _, h2, rfl, fun k => ?_, fun k => by rw [h4]⟩
 rw [h3]
 simp only [lk]
 by_cases e5 : k = 5
 ·subst e5; simp
 ·rw [if_neg e5]
theorem litV_eq (a : BitVec 128) (l : Int) : litHolds a l = litV a l := by
 have h := (litVar_range l).1
 unfold litHolds litV
 by_cases e : litVar l = 0
 ·rw [if_pos e, decide_eq_false (by omega)]; rfl
 ·rw [if_neg e, decide_eq_true (by omega)]; rfl
set_option maxHeartbeats 16000000 in
theorem eval_p (N : Int) (ns : List Nd) (a : BitVec 128) (hN : okI N = true) (h : okNs ns = true) : FnPure Tryd.prog 27 [aNet N ns, aSet a] (.v (.bool (evalN N ns a))) := by
 have hl := okNs_len h
 unfold evalN
 cases hv : validN N ns
 ·have he : errN N ns = 1 := by unfold errN; rw [hv]; rfl
  rw [Bool.false_and]
  unfold aNet aNds aSet WV
  refine fn_sp TT_ok Tryd.func27 (c := _) rfl (by simp [Tryd.ntmps27]) (fun B hI0 hro => ?_)
  rw [Tryd.ntmps27]
  simp only [enumA]
  refine amGo PT152_ok (h := ?_)
  (refine amRt Tryd.results27 (h := ?_); try simp [*])
 have he : errN N ns = 0 := by unfold errN; rw [hv]; rfl
 have hp := valid_len hv
 rw [Bool.true_and]
 unfold evalR
 have hfix : ∀ k, k < ns.length → (valsL a ns).getD k false = nodeV a (ns.getD k nd0) (valsL a ns) := fun k hk => scanN_fix (nodeV_in a) hv hk
 have hV : (valsL a ns).length = ns.length := scanN_len _ ns
 obtain ⟨V, hVV⟩ : ∃ V, valsL a ns = V := ⟨_, rfl⟩
 rw [hVV] at hV hfix ⊢
 clear hVV
 have c1 : (ns.length : Int) ≤ 281474976710656 := by omega
 have c2 : (ns.length : Int) ≤ 9223372036854775807 := by omega
 unfold aNet aNds aSet WV
 refine fn_sp TT_ok Tryd.func27 (c := _) rfl (by simp [Tryd.ntmps27]) (fun B hI0 hro => ?_)
 rw [Tryd.ntmps27]
 simp only [enumA]
 refine amStr (h := ?_)
 refine amReg PT152_ok (h := ?_)
 refine amStr (h := ?_)
 refine amReg PT152_ok (h := ?_)
 refine amStr (h := ?_)
 refine amReg PT152_ok (h := ?_)
 refine amStr (h := ?_)
 refine amReg PT152_ok (h := ?_)
 refine amStr (h := ?_)
 refine s_loop (J := fun i : {p : Nat × List Bool // p.1 ≤ ns.length ∧ p.2.length = ns.length ∧ Hid (∀ j, j < p.1 → p.2.getD j false = V.getD j false) ∧ Hid (∀ j, p.1 ≤ j → p.2.getD j false = false)} => ⟨65, [(2, .ptr 0 0 0), (3, .ptr 1 0 0), (5, .ptr 6 0 0), (16, .sl 3 (ns.map fun x => [AV.v (.int .i64 x.1), .v (.int .i64 x.2.1), aInts x.2.2])), (17, .v (.int .i64 (ns.length : Int))), (18, .v (.int .i64 (i.1.1 : Int)))], [(0, ⟨24, 2, [[.v (.int .i64 N), .sl 3 (ns.map fun x => [AV.v (.int .i64 x.1), .v (.int .i64 x.2.1), aInts x.2.2])]]⟩), (1, ⟨27, 2, [[.v (.int .u64 ((lo a).toNat : Int)), .v (.int .u64 ((hi a).toNat : Int))]]⟩), (5, ⟨4, 1, i.1.2.map fun b => [AV.v (.bool b)]⟩), (6, ⟨65, 1, [[.ref 5 0 ns.length]]⟩)], [6, 5, 1, 0]⟩) (μ := fun i => ns.length - i.1.1) ⟨(0, List.replicate ns.length false), Nat.zero_le _, List.length_replicate .., Lib.hid fun j hj => by omega, Lib.hid fun j hj => by simp [List.getD, List.getElem?_replicate]; split <;> rfl⟩ ?_ (fun ⟨⟨k, LL⟩, hk, hLL, hlo, hhi⟩ => ?_)
 ·(refine weak_id rfl ?_ ?_ <;> ((try simp only [List.mem_cons, List.not_mem_nil, or_false, forall_eq_or_imp, forall_eq]); (try simp (disch := omega) [i64w, *])))
 dsimp only at hk hLL hlo hhi
 dsimp only
 refine amStr (h := ?_)
 refine amReg PT152_ok (h := ?_)
 refine amStr (h := ?_)
 (focus ((with_reducible refine sp_cond (b := ?_) ?_ (fun hc => ?_) (fun hc => ?_)); rotate_left; (focus (first | rfl | (simp [lk, AS.ev]; rfl))); all_goals (try simp at hc)))
 ·have hkk := hc
  clear hc
  have hfm := valid_form hv hkk
  obtain ⟨o1, o2, o3, o5⟩ := okNs_at h hkk
  have o6 := okInts_len o3
  have hkL : k < LL.length := by omega
  have hin : ∀ x ∈ (ns.getD k nd0).2.2, 0 ≤ x ∧ x < (ns.length : Int) := fun x hx => by have := form_in hfm hx; omega
  have heq : ∀ x ∈ (ns.getD k nd0).2.2, LL.getD x.toNat false = V.getD x.toNat false := fun x hx => by have := form_in hfm hx; exact hlo.out _ (by omega)
  have hfx := hfix k hkk
  clear hfix
  unfold nodeV at hfx
  have hnk : (ns.getD k nd0).1 = 0 ∨ (ns.getD k nd0).1 = 1 ∨ (ns.getD k nd0).1 = 2 ∨ (ns.getD k nd0).1 = 3 ∨ (ns.getD k nd0).1 = 4 := by
   unfold formB at hfm
   rw [Bool.and_eq_true] at hfm
   by_cases c0 : (ns.getD k nd0).1 = 0 ∨ (ns.getD k nd0).1 = 1
   ·omega
   ·by_cases c2 : (ns.getD k nd0).1 = 2
    ·omega
    ·by_cases c3 : (ns.getD k nd0).1 = 3 ∨ (ns.getD k nd0).1 = 4
     ·omega
     ·have := hfm.2
      rw [if_neg c0, if_neg c2, if_neg c3] at this
      cases this
  rcases hnk with kk | kk | kk | kk | kk
  ·rw [if_neg (by omega), if_neg (by omega), if_neg (by omega), if_neg (by omega)] at hfx
   replace hfx := Lib.hid hfx
   clear hin heq hfm
   refine amGo PT152_ok (h := ?_)
   refine k_lp (⟨(k + 1, LL), by omega, hLL, Lib.hid fun j hj => ?_, Lib.hid fun j hj => hhi.out j (by omega)⟩ : {p : Nat × List Bool // p.1 ≤ ns.length ∧ p.2.length = ns.length ∧ Hid (∀ j, j < p.1 → p.2.getD j false = V.getD j false) ∧ Hid (∀ j, p.1 ≤ j → p.2.getD j false = false)}) (by first | omega | (dsimp only; omega)) ?_
   ·by_cases e : j < k
    ·exact hlo.out j e
    ·obtain rfl : j = k := by omega
     rw [hfx.out]; exact hhi.out j (Nat.le_refl _)
   ·(refine weak_id rfl ?_ ?_ <;> ((try simp only [List.mem_cons, List.not_mem_nil, or_false, forall_eq_or_imp, forall_eq]); (try simp (disch := omega) [i64w, *])))
  ·rw [if_pos kk] at hfx
   replace hfx := Lib.hid hfx
   clear hin heq hfm
   refine amGo PT152_ok (h := ?_)
   refine k_lp (⟨(k + 1, LL.set k true), by omega, by simp [hLL], Lib.hid fun j hj => ?_, Lib.hid fun j hj => by rw [getD_set_ne (by omega)]; exact hhi.out j (by omega)⟩ : {p : Nat × List Bool // p.1 ≤ ns.length ∧ p.2.length = ns.length ∧ Hid (∀ j, j < p.1 → p.2.getD j false = V.getD j false) ∧ Hid (∀ j, p.1 ≤ j → p.2.getD j false = false)}) (by first | omega | (dsimp only; omega)) ?_
   ·by_cases e : j < k
    ·rw [getD_set_ne (by omega)]; exact hlo.out j e
    ·obtain rfl : j = k := by omega
     rw [getD_set_eq hkL]; exact hfx.out.symm
   ·(refine weak_id rfl ?_ ?_ <;> ((try simp only [List.mem_cons, List.not_mem_nil, or_false, forall_eq_or_imp, forall_eq]); (try simp (disch := omega) [i64w, *])))
  ·rw [if_neg (by omega), if_pos kk, ← litV_eq] at hfx
   replace hfx := Lib.hid hfx
   clear hin heq hfm
   refine amStr (h := ?_)
   refine amReg PT152_ok (h := ?_)
   refine amStr (h := ?_)
   refine amReg PT152_ok (h := ?_)
   refine amStr (h := ?_)
   refine amReg PT152_ok (h := ?_)
   refine amStr (h := ?_)
   refine amReg PT152_ok (h := ?_)
   refine amStr (h := ?_)
   refine amDrw PT152_ok (h := ?_)
   refine amStr (h := ?_)
   refine amReg PT152_ok (h := ?_)
   refine k_lp (⟨(k + 1, LL.set k (litHolds a (ns.getD k nd0).2.1)), by omega, by simp [hLL], Lib.hid fun j hj => ?_, Lib.hid fun j hj => by rw [getD_set_ne (by omega)]; exact hhi.out j (by omega)⟩ : {p : Nat × List Bool // p.1 ≤ ns.length ∧ p.2.length = ns.length ∧ Hid (∀ j, j < p.1 → p.2.getD j false = V.getD j false) ∧ Hid (∀ j, p.1 ≤ j → p.2.getD j false = false)}) (by first | omega | (dsimp only; omega)) ?_
   ·by_cases e : j < k
    ·rw [getD_set_ne (by omega)]; exact hlo.out j e
    ·obtain rfl : j = k := by omega
     rw [getD_set_eq hkL]; exact hfx.out.symm
   ·(refine weak_id rfl ?_ ?_ <;> ((try simp only [List.mem_cons, List.not_mem_nil, or_false, forall_eq_or_imp, forall_eq]); (try simp (disch := omega) [i64w, *])))
  ·rw [if_neg (by omega), if_neg (by omega), if_pos kk] at hfx
   have hany : (!(ns.getD k nd0).2.2.any fun x => !LL.getD x.toNat false) = V.getD k false := by
    rw [hfx, ← all_congr heq, List.not_any_eq_all_not]
    simp
   replace hfx := Lib.hid hany.symm
   clear heq hfm hany
   refine amStr (h := ?_)
   refine amReg PT152_ok (h := ?_)
   refine amStr (h := ?_)
   refine amReg PT152_ok (h := ?_)
   refine amStr (h := ?_)
   refine amReg PT152_ok (h := ?_)
   refine amStr (h := ?_)
   refine amReg PT152_ok (h := ?_)
   refine amStr (h := ?_)
   refine amReg PT152_ok (h := ?_)
   refine amStr (h := ?_)
   refine s_drawC (es := ?es1) (σ' := ⟨?n1, ?s1, ?b1, ?i1⟩) (σ0 := ?t1) (o0 := ?o1) (e0 := ⟨some 46, .v (.bool ((ns.getD k nd0).2.2.any fun x => !LL.getD x.toNat false)), [(5, some ⟨4, 1, LL.map fun b => [AV.v (.bool b)]⟩)], [44, 45], [5, 6], none⟩) (q := 90) prog_mixed TT_ok PT152_ok ?he1 ?hrun1 ?hok1 ?kk1
   case hrun1 =>
    (((with_reducible refine runC_cons (e := ?_) (σ1 := ?_) (es := ?_) ?_ ?_ ?_ ?_); rotate_left 4; (focus (simp [*]; exact Eq.refl _)); (focus (simp; exact Eq.refl _))))
    (((with_reducible refine runC_cons (e := ?_) (σ1 := ?_) (es := ?_) ?_ ?_ ?_ ?_); rotate_left 4; (focus (simp [*]; exact Eq.refl _)); (focus (simp; exact Eq.refl _))))
    (((with_reducible refine runC_cons (e := ?_) (σ1 := ?_) (es := ?_) ?_ ?_ ?_ ?_); rotate_left 4; (focus (simp [*]; exact Eq.refl _)); (focus (simp; exact Eq.refl _))))
    (((with_reducible refine runC_cons (e := ?_) (σ1 := ?_) (es := ?_) ?_ ?_ ?_ ?_); rotate_left 4; (focus (simp [*]; exact Eq.refl _)); (focus (simp; exact Eq.refl _))))
    (((with_reducible refine runC_cons (e := ?_) (σ1 := ?_) (es := ?_) ?_ ?_ ?_ ?_); rotate_left 4; (focus (simp [*]; exact Eq.refl _)); (focus (simp; exact Eq.refl _))))
    refine runC_call (es := ?_) (σ1 := ?_) ?_ ?_
    rotate_left 2
    ·simp; exact Eq.refl _
    (((with_reducible refine runC_cons (e := ?_) (σ1 := ?_) (es := ?_) ?_ ?_ ?_ ?_); rotate_left 4; (focus (simp [*]; exact Eq.refl _)); (focus (simp; exact Eq.refl _))))
    (((with_reducible refine runC_cons (e := ?_) (σ1 := ?_) (es := ?_) ?_ ?_ ?_ ?_); rotate_left 4; (focus (simp [*]; exact Eq.refl _)); (focus (simp; exact Eq.refl _))))
    (((with_reducible refine runC_cons (e := ?_) (σ1 := ?_) (es := ?_) ?_ ?_ ?_ ?_); rotate_left 4; (focus (simp [*]; exact Eq.refl _)); (focus (simp; exact Eq.refl _))))
    exact runC_nil
    all_goals decide
   case he1 =>
    intro D
    refine eff_callV TT_ok (f := 57) (avs := [aInts (ns.getD k nd0).2.2, .clo 58 [.ptr 6 0 0]]) (L := [aInts (ns.getD k nd0).2.2, .clo 58 [.ptr 6 0 0]]) rfl rfl rfl rfl rfl (by kernel_rfl) Tryd.func57 rfl (by simp [Tryd.ntmps57]) [(5, ⟨4, 1, LL.map fun b => [AV.v (.bool b)]⟩), (6, ⟨65, 1, [[.ref 5 0 ns.length]]⟩)] [5, 6] (fun q => ?_) (fun q hq => ?_) (fun q hq ob hob i hi => ?_) (fun q hq => ?_) (id := 5) (by simp) (av := .v (.bool ((ns.getD k nd0).2.2.any fun x => !LL.getD x.toNat false))) (ob' := ⟨4, 1, LL.map fun b => [AV.v (.bool b)]⟩) (ev1_call LL ns.length (ns.getD k nd0).2.2 o3 hLL hl hin rfl)
    ·simp only [lk, List.mem_cons, List.not_mem_nil, or_false]
     by_cases e1 : 5 = q
     ·subst e1; simp
     ·by_cases e2 : 6 = q
      ·subst e2; simp
      ·rw [if_neg e1, if_neg e2, if_neg (by omega)]
    ·simp [idsL, AV.ids] at hq; simp [hq]
    ·simp only [List.mem_cons, List.not_mem_nil, or_false] at hq
     rcases hq with rfl | rfl
     ·simp [lk] at hob; subst hob; rw [show idsLL (LL.map fun b => [AV.v (.bool b)]) = [] from d_ids_bools LL] at hi; cases hi
     ·simp [lk] at hob; subst hob; simp [idsLL, idsL, AV.ids] at hi; simp [hi]
    ·simp only [List.mem_cons, List.not_mem_nil, or_false] at hq
     rcases hq with rfl | rfl <;> simp
   case hok1 => kernel_rfl
   case kk1 =>
   (refine s_eq (τ := ?_) ?_ ?_; rotate_left; (focus ((try simp only [AS.frz, List.map_cons, List.map_nil]); (try simp [frzV, frzO, frzC, List.filter]); rfl)))
   refine amStr (h := ?_)
   refine amReg PT152_ok (h := ?_)
   refine k_lp (⟨(k + 1, LL.set k (!(ns.getD k nd0).2.2.any fun x => !LL.getD x.toNat false)), by omega, by simp [hLL], Lib.hid fun j hj => ?_, Lib.hid fun j hj => by rw [getD_set_ne (by omega)]; exact hhi.out j (by omega)⟩ : {p : Nat × List Bool // p.1 ≤ ns.length ∧ p.2.length = ns.length ∧ Hid (∀ j, j < p.1 → p.2.getD j false = V.getD j false) ∧ Hid (∀ j, p.1 ≤ j → p.2.getD j false = false)}) (by first | omega | (dsimp only; omega)) ?_
   ·by_cases e : j < k
    ·rw [getD_set_ne (by omega)]; exact hlo.out j e
    ·obtain rfl : j = k := by omega
     rw [getD_set_eq hkL]; exact hfx.out.symm
   ·(refine weak_id rfl ?_ ?_ <;> ((try simp only [List.mem_cons, List.not_mem_nil, or_false, forall_eq_or_imp, forall_eq]); (try simp (disch := omega) [i64w, *])))
  ·rw [if_neg (by omega), if_neg (by omega), if_neg (by omega), if_pos kk] at hfx
   have hany : ((ns.getD k nd0).2.2.any fun x => LL.getD x.toNat false) = V.getD k false := by
    rw [hfx, ← any_congr heq]
   replace hfx := Lib.hid hany.symm
   clear heq hfm hany
   refine amStr (h := ?_)
   refine amReg PT152_ok (h := ?_)
   refine amStr (h := ?_)
   refine amReg PT152_ok (h := ?_)
   refine amStr (h := ?_)
   refine amReg PT152_ok (h := ?_)
   refine amStr (h := ?_)
   refine amReg PT152_ok (h := ?_)
   refine amStr (h := ?_)
   refine amReg PT152_ok (h := ?_)
   refine amStr (h := ?_)
   refine amReg PT152_ok (h := ?_)
   refine amStr (h := ?_)
   refine s_drawC (es := ?es2) (σ' := ⟨?n2, ?s2, ?b2, ?i2⟩) (σ0 := ?t2) (o0 := ?o2) (e0 := ⟨some 56, .v (.bool ((ns.getD k nd0).2.2.any fun x => LL.getD x.toNat false)), [(5, some ⟨4, 1, LL.map fun b => [AV.v (.bool b)]⟩)], [54, 55], [5, 6], none⟩) (q := 90) prog_mixed TT_ok PT152_ok ?he2 ?hrun2 ?hok2 ?kk2
   case hrun2 =>
    (((with_reducible refine runC_cons (e := ?_) (σ1 := ?_) (es := ?_) ?_ ?_ ?_ ?_); rotate_left 4; (focus (simp [*]; exact Eq.refl _)); (focus (simp; exact Eq.refl _))))
    (((with_reducible refine runC_cons (e := ?_) (σ1 := ?_) (es := ?_) ?_ ?_ ?_ ?_); rotate_left 4; (focus (simp [*]; exact Eq.refl _)); (focus (simp; exact Eq.refl _))))
    (((with_reducible refine runC_cons (e := ?_) (σ1 := ?_) (es := ?_) ?_ ?_ ?_ ?_); rotate_left 4; (focus (simp [*]; exact Eq.refl _)); (focus (simp; exact Eq.refl _))))
    (((with_reducible refine runC_cons (e := ?_) (σ1 := ?_) (es := ?_) ?_ ?_ ?_ ?_); rotate_left 4; (focus (simp [*]; exact Eq.refl _)); (focus (simp; exact Eq.refl _))))
    (((with_reducible refine runC_cons (e := ?_) (σ1 := ?_) (es := ?_) ?_ ?_ ?_ ?_); rotate_left 4; (focus (simp [*]; exact Eq.refl _)); (focus (simp; exact Eq.refl _))))
    refine runC_call (es := ?_) (σ1 := ?_) ?_ ?_
    rotate_left 2
    ·simp; exact Eq.refl _
    (((with_reducible refine runC_cons (e := ?_) (σ1 := ?_) (es := ?_) ?_ ?_ ?_ ?_); rotate_left 4; (focus (simp [*]; exact Eq.refl _)); (focus (simp; exact Eq.refl _))))
    (((with_reducible refine runC_cons (e := ?_) (σ1 := ?_) (es := ?_) ?_ ?_ ?_ ?_); rotate_left 4; (focus (simp [*]; exact Eq.refl _)); (focus (simp; exact Eq.refl _))))
    exact runC_nil
    all_goals decide
   case he2 =>
    intro D
    refine eff_callV TT_ok (f := 57) (avs := [aInts (ns.getD k nd0).2.2, .clo 59 [.ptr 6 0 0]]) (L := [aInts (ns.getD k nd0).2.2, .clo 59 [.ptr 6 0 0]]) rfl rfl rfl rfl rfl (by kernel_rfl) Tryd.func57 rfl (by simp [Tryd.ntmps57]) [(5, ⟨4, 1, LL.map fun b => [AV.v (.bool b)]⟩), (6, ⟨65, 1, [[.ref 5 0 ns.length]]⟩)] [5, 6] (fun q => ?_) (fun q hq => ?_) (fun q hq ob hob i hi => ?_) (fun q hq => ?_) (id := 5) (by simp) (av := .v (.bool ((ns.getD k nd0).2.2.any fun x => LL.getD x.toNat false))) (ob' := ⟨4, 1, LL.map fun b => [AV.v (.bool b)]⟩) (ev2_call LL ns.length (ns.getD k nd0).2.2 o3 hLL hl hin rfl)
    ·simp only [lk, List.mem_cons, List.not_mem_nil, or_false]
     by_cases e1 : 5 = q
     ·subst e1; simp
     ·by_cases e2 : 6 = q
      ·subst e2; simp
      ·rw [if_neg e1, if_neg e2, if_neg (by omega)]
    ·simp [idsL, AV.ids] at hq; simp [hq]
    ·simp only [List.mem_cons, List.not_mem_nil, or_false] at hq
     rcases hq with rfl | rfl
     ·simp [lk] at hob; subst hob; rw [show idsLL (LL.map fun b => [AV.v (.bool b)]) = [] from d_ids_bools LL] at hi; cases hi
     ·simp [lk] at hob; subst hob; simp [idsLL, idsL, AV.ids] at hi; simp [hi]
    ·simp only [List.mem_cons, List.not_mem_nil, or_false] at hq
     rcases hq with rfl | rfl <;> simp
   case hok2 => kernel_rfl
   case kk2 =>
   (refine s_eq (τ := ?_) ?_ ?_; rotate_left; (focus ((try simp only [AS.frz, List.map_cons, List.map_nil]); (try simp [frzV, frzO, frzC, List.filter]); rfl)))
   refine amStr (h := ?_)
   refine amReg PT152_ok (h := ?_)
   refine k_lp (⟨(k + 1, LL.set k ((ns.getD k nd0).2.2.any fun x => LL.getD x.toNat false)), by omega, by simp [hLL], Lib.hid fun j hj => ?_, Lib.hid fun j hj => by rw [getD_set_ne (by omega)]; exact hhi.out j (by omega)⟩ : {p : Nat × List Bool // p.1 ≤ ns.length ∧ p.2.length = ns.length ∧ Hid (∀ j, j < p.1 → p.2.getD j false = V.getD j false) ∧ Hid (∀ j, p.1 ≤ j → p.2.getD j false = false)}) (by first | omega | (dsimp only; omega)) ?_
   ·by_cases e : j < k
    ·rw [getD_set_ne (by omega)]; exact hlo.out j e
    ·obtain rfl : j = k := by omega
     rw [getD_set_eq hkL]; exact hfx.out.symm
   ·(refine weak_id rfl ?_ ?_ <;> ((try simp only [List.mem_cons, List.not_mem_nil, or_false, forall_eq_or_imp, forall_eq]); (try simp (disch := omega) [i64w, *])))
 ·obtain rfl : k = ns.length := by omega
  clear hc
  have hfin : LL = V := ext_getD false (by omega) fun i hi => hlo.out i (by omega)
  subst hfin
  clear hfix
  obtain ⟨m, hm⟩ : ∃ m, ns.length = m + 1 := ⟨ns.length - 1, by omega⟩
  have hw : IntKind.i64.wrap (m : Int) = (m : Int) := i64w (by omega) (by omega)
  have hmn : (m : Int) < (m : Int) + 1 := by omega
  have hmL : m < LL.length := by omega
  refine amGo PT152_ok (h := ?_)
  (refine amRt Tryd.results27 (h := ?_); try simp [*])
end Go.Proofs.YtecdhmiamlgibaaDoor
