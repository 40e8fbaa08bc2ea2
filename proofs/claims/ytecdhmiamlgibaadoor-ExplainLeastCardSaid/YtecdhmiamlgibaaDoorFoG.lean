/- Nets as arguments; no condition. -/
import Derived.Test.YtecdhmiamlgibaaDoorNgG
import Derived.Test.YtecdhmiamlgibaaDoorCvG
import Derived.Test.YtecdhmiamlgibaaDoorWl
import Derived.Test.YtecdhmiamlgibaaDoorVsG
import Derived.Test.YtecdhmiamlgibaaDoorVl
/- Na39: Nets as arguments; no condition. -/
namespace Go.Proofs.YtecdhmiamlgibaaDoor
set_option linter.unusedVariables false
set_option linter.unusedSimpArgs false
set_option linter.unusedSectionVars false
open Go.RowKit
set_option maxRecDepth 100000
def ndsOf : List (List AV) → Option (List Nd)
 | [] => some []
 | [.v (.int .i64 k), .v (.int .i64 l), c] :: r => match toInts c, ndsOf r with
  | some x, some y => some ((k, l, x) :: y)
  | _, _ => none
 | _ :: _ => none
def toNds : AV → Option (List Nd)
 | .sl 3 ys => ndsOf ys
 | .v (.slice none 0 0) => some []
 | _ => none
@[simp] theorem ndsOf_map : ∀ l : List Nd, ndsOf (l.map fun x => [AV.v (.int .i64 x.1), .v (.int .i64 x.2.1), aInts x.2.2]) = some l
 | [] => rfl
 | (k, y, x) :: l => by simp [ndsOf, ndsOf_map l]
@[simp] theorem toNds_sl (l : List Nd) : toNds (.sl 3 (l.map fun x => [AV.v (.int .i64 x.1), .v (.int .i64 x.2.1), aInts x.2.2])) = some l := ndsOf_map l
@[simp] theorem toNds_aNds (l : List Nd) : toNds (aNds l) = some l := ndsOf_map l
@[simp] theorem toNds_nil : toNds (.v (.slice none 0 0)) = some [] := rfl
@[simp ↓ high] theorem d_ids_aNds (l : List Nd) : idsLL (l.map fun x => [AV.v (.int .i64 x.1), .v (.int .i64 x.2.1), aInts x.2.2]) = [] := by
 induction l with
 | nil => rfl
 | cons p r ih => simp [idsLL, idsL, AV.ids, ih]
@[simp ↓ high] theorem d_ren_aNds (ρ : Nat → Nat) (l : List Nd) : renLL ρ (l.map fun x => [AV.v (.int .i64 x.1), .v (.int .i64 x.2.1), aInts x.2.2]) = l.map fun x => [AV.v (.int .i64 x.1), .v (.int .i64 x.2.1), aInts x.2.2] := renLL_pure ρ _ (d_ids_aNds l)
@[simp] theorem nds_get {l : List Nd} {k : Nat} (h : k < l.length) : (l.map fun x => [AV.v (.int .i64 x.1), .v (.int .i64 x.2.1), aInts x.2.2]).getD k [] = [.v (.int .i64 (l.getD k nd0).1), .v (.int .i64 (l.getD k nd0).2.1), aInts (l.getD k nd0).2.2] := by
 simp [List.getD, h]
theorem ndsOf_rows : ∀ {ys : List (List AV)} {l : List Nd}, ndsOf ys = some l → ys.length = l.length ∧ ∀ i, i < l.length → ∃ c, ys.getD i [] = [.v (.int .i64 (l.getD i nd0).1), .v (.int .i64 (l.getD i nd0).2.1), c] ∧ toInts c = some (l.getD i nd0).2.2
 | [], l, h => by
  simp only [ndsOf, Option.some.injEq] at h
  subst h
  exact ⟨rfl, fun i hi => absurd hi (by simp)⟩
 | a :: r, l, h => by
  unfold ndsOf at h
  split at h
  ·rename_i he; cases he
  ·rename_i k y c r2 he
   cases he
   split at h
   ·rename_i x l2 h1 h3
    cases h
    obtain ⟨g1, g2⟩ := ndsOf_rows h3
    refine ⟨by simp [g1], fun i hi => ?_⟩
    cases i with
    | zero => exact ⟨c, rfl, h1⟩
    | succ i =>
     have := g2 i (by simpa using hi)
     simpa using this
   ·cases h
  ·cases h
theorem cov_nds {a : AV} {l : List Nd} (h : toNds a = some l) : Cov a (aNds l) := fun S v hv => by
 unfold toNds at h
 split at h
 ·rename_i ys
  obtain ⟨g1, g2⟩ := ndsOf_rows h
  cases hv with
  | sl _ _ b n c us hn hc hm h0 hz ha h3 h4 =>
   refine .sl 3 _ b n c us (by rw [hn, List.length_map, g1]) hc hm h0 (fun i hi => ?_) (fun hp => ?_) (fun i j hi hj => ?_) (fun i j hi hj => ?_)
   ·rw [List.length_map] at hi; rw [nds_get hi]; rfl
   ·rw [List.length_map] at hp
    obtain ⟨b2, base, e1, e2⟩ := ha (by omega)
    exact ⟨b2, base, e1, fun i j hi hj => e2 i j (by rw [List.length_map] at hi; omega) hj⟩
   ·rw [List.length_map] at hi
    exact h3 i j (by omega) hj
   ·rw [List.length_map] at hi
    obtain ⟨c, e1, e2⟩ := g2 i hi
    have h5 := h4 i j (by omega) hj
    rw [e1] at h5
    rw [nds_get hi]
    match j, hj with
    | 0, hj => exact h5
    | 1, hj => exact h5
    | 2, hj => exact cov_ints e2 S _ h5
 ·cases h; rw [hv.v_eq]; exact rv_nil 3
 ·cases h
theorem cov_nd {a : AV} {xs : List Int} (k l : Int) (h : toInts a = some xs) : Cov (.agg [.v (.int .i64 k), .v (.int .i64 l), a]) (.agg [.v (.int .i64 k), .v (.int .i64 l), aInts xs]) := fun S v hv => by
 cases hv with
 | agg _ us hl g1 g2 =>
  refine .agg _ us hl g1 fun i hi => ?_
  match i, hi with
  | 0, hi => exact g2 0 (by simp)
  | 1, hi => exact g2 1 (by simp)
  | 2, hi => exact cov_ints h S _ (g2 2 (by simp))
theorem okNs_len {ns : List Nd} (h : okNs ns = true) : ns.length ≤ 200 := by
 unfold okNs at h
 rw [Bool.and_eq_true, decide_eq_true_eq] at h
 exact h.1
theorem okNs_at {ns : List Nd} (h : okNs ns = true) {i : Nat} (hi : i < ns.length) : okI (ns.getD i nd0).1 = true ∧ okI (ns.getD i nd0).2.1 = true ∧ okInts (ns.getD i nd0).2.2 = true ∧ (ns.getD i nd0).2.2.length ≤ 20 := by
 unfold okNs at h
 rw [Bool.and_eq_true] at h
 have := List.all_eq_true.1 h.2 (ns.getD i nd0) (by simp [List.getD, hi])
 unfold okNd at this
 simp only [Bool.and_eq_true, decide_eq_true_eq] at this
 exact ⟨this.1.1.1, this.1.1.2, this.1.2, this.2⟩
end Go.Proofs.YtecdhmiamlgibaaDoor
/- Fo39: node.formed and Check, the reference's Formed and Valid; no condition. -/
namespace Go.Proofs.YtecdhmiamlgibaaDoor
set_option linter.unusedVariables false
set_option linter.unusedSimpArgs false
set_option linter.unusedSectionVars false
open Go.RowKit
open Wlk
attribute [-simp] List.getD_eq_getElem?_getD
set_option maxRecDepth 100000
def badIn (i x : Int) : Bool := decide (x < 0) || decide (i ≤ x)
theorem badIn_any (xs : List Int) (i : Int) : xs.any (badIn i) = !xs.all (fun k => decide (0 ≤ k) && decide (k < i)) := by
 induction xs with
 | nil => rfl
 | cons a r ih =>
  rw [List.any_cons, List.all_cons, ih, Bool.not_and]
  congr 1
  unfold badIn
  by_cases h1 : a < 0 <;> by_cases h2 : i ≤ a <;> simp [h1, h2] <;> omega
theorem formed1_looks (k l i : Int) (xs : List Int) (hx : okInts xs = true) (hi : okI i = true) : Looks Tryd.prog [(0, ⟨57, 3, [[.v (.int .i64 k), .v (.int .i64 l), aInts xs]]⟩), (1, ⟨3, 1, [[.v (.int .i64 i)]]⟩)] [1, 0] 109 [.ptr 1 0 0] (avI xs) (onI (badIn i)) := by
 refine ⟨by kernel_rfl, _, _, Tryd.func109, rfl, by simp [Tryd.ntmps109], fun x hxm B hI hro => ?_⟩
 obtain ⟨y, hy, rfl⟩ := List.mem_map.1 hxm
 have ho := okInts_mem hx y hy
 rw [Tryd.ntmps109, Tryd.results109]
 simp only [enumA]
 by_cases h1 : y < 0
 ·have hb : badIn i y = true := by simp [badIn, h1]
  refine amGo PT11_ok (h := ?_)
  refine ⟨.inr rfl, ?_, rfl, rfl⟩
  simp [retA, retL, ret1, lk, st, onI, hb]
 ·have hb : badIn i y = decide (i ≤ y) := by simp [badIn, h1]
  refine amGo PT11_ok (h := ?_)
  refine ⟨.inr rfl, ?_, rfl, rfl⟩
  simp [retA, retL, ret1, lk, st, onI, hb]
theorem formed_p (k l n i : Int) (xs : List Int) (hk : okI k = true) (hl : okI l = true) (hx : okInts xs = true) (hn : okI n = true) (hi : okI i = true) : FnPure Tryd.prog 84 [.agg [.v (.int .i64 k), .v (.int .i64 l), aInts xs], .v (.int .i64 n), .v (.int .i64 i)] (.v (.bool (formB (k, l, xs) n i))) := by
 have hm := okInts_len hx
 have hlk := formed1_looks k l i xs hx hi
 have hbad := badIn_any xs i
 unfold formB
 generalize hall : (xs.all fun k => decide (0 ≤ k) && decide (k < i)) = bb at hbad ⊢
 refine fn_sp TT_ok Tryd.func84 (c := _) rfl (by simp [Tryd.ntmps84]) (fun B hI0 hro => ?_)
 rw [Tryd.ntmps84]
 simp only [enumA]
 refine amGo PT11_ok (h := ?_)
 refine s_regionL ?_
 ((iterate 3 (((with_reducible refine spl_step TT_ok PT11_ok (id := 0) (σ' := ?_) ?_ ?_); rotate_left; (focus (simp [*]; rfl))))))
 refine spl_call TT_ok rfl rfl rfl (by kernel_rfl) Tryd.func57 rfl (avs := [aInts xs, .clo 109 [.ptr 1 0 0]]) (cs := []) rfl rfl (by simp [Tryd.ntmps57]) fun B' hI' hro' => ?_
 refine sp_mono (cntFI_sp (fun k ob hk => ?_) (by omega) (fun k hk => ?_) hlk rfl hI') fun e τ hq => ?_
 ·simp only [lk] at hk
  split at hk
  ·cases hk; rename_i e; subst e; simp [idsLL, idsL, AV.ids]
  ·split at hk
   ·cases hk; rename_i e; subst e; simp [idsLL, idsL, AV.ids]
   ·cases hk
 ·have : k = 1 := by simpa [idsL, AV.ids] using hk
  simp [this]
 obtain ⟨h1, h2, h3, h4⟩ := hq
 refine ⟨h1, _, h2, ?_⟩
 rw [h3, h4, hbad]
 clear h1 h2 h3 h4 hlk hbad hall
 refine spl_nil ?_
 cases bb with
 | false =>
  refine amGo PT11_ok (h := ?_)
  (refine amRt Tryd.results84 (h := ?_); try simp [*])
 | true =>
  by_cases k0 : k = 0
  ·subst k0
   by_cases z : l = 0
   ·refine amGo PT11_ok (h := ?_)
    (refine amRt Tryd.results84 (h := ?_); try simp [*])
    all_goals (rw [Bool.eq_iff_iff]; simp; try omega)
   ·have hz : (l == 0) = false := by simp [z]
    refine amGo PT11_ok (h := ?_)
    (refine amRt Tryd.results84 (h := ?_); try simp [*])
  by_cases k1 : k = 1
  ·subst k1
   by_cases z : l = 0
   ·refine amGo PT11_ok (h := ?_)
    (refine amRt Tryd.results84 (h := ?_); try simp [*])
    all_goals (rw [Bool.eq_iff_iff]; simp; try omega)
   ·have hz : (l == 0) = false := by simp [z]
    refine amGo PT11_ok (h := ?_)
    (refine amRt Tryd.results84 (h := ?_); try simp [*])
  by_cases k2 : k = 2
  ·subst k2
   cases z : litOk l n
   ·refine amGo PT11_ok (h := ?_)
    (refine amRt Tryd.results84 (h := ?_); try simp [*])
   ·refine amGo PT11_ok (h := ?_)
    (refine amRt Tryd.results84 (h := ?_); try simp [*])
    all_goals (rw [Bool.eq_iff_iff]; simp; try omega)
  by_cases k3 : k = 3
  ·subst k3
   refine amGo PT11_ok (h := ?_)
   (refine amRt Tryd.results84 (h := ?_); try simp [*])
   all_goals (rw [Bool.eq_iff_iff]; simp)
  by_cases k4 : k = 4
  ·subst k4
   refine amGo PT11_ok (h := ?_)
   (refine amRt Tryd.results84 (h := ?_); try simp [*])
   all_goals (rw [Bool.eq_iff_iff]; simp)
  refine amGo PT11_ok (h := ?_)
  (refine amRt Tryd.results84 (h := ?_); try simp [*])
@[simp] def g_nFormed : List AV → Option (AV × Bool)
 | [.agg [.v (.int .i64 k), .v (.int .i64 l), a0], .v (.int .i64 n), .v (.int .i64 i)] => (match toInts a0 with | some xs => if (okI k && okI l && okInts xs && okI n && okI i) = true then some (.v (.bool (formB (k, l, xs) n i)), false) else none | none => none)
 | _ => none
theorem e_nFormed : EntOk Tryd.prog 84 g_nFormed := ent_pure (by kernel_rfl) fun args r fr h => by
 unfold g_nFormed at h
 split at h
 ·rename_i k l a0 n i
  split at h
  ·rename_i xs t0
   split at h
   ·rename_i hc
    simp only [Bool.and_eq_true] at hc
    obtain ⟨⟨⟨⟨m0, l0⟩, o0⟩, o1⟩, o2⟩ := hc
    cases h
    exact ⟨FnPure.cov (formed_p k l n i xs m0 l0 o0 o1 o2) (.cons (cov_nd _ _ t0) (.cons (Cov.refl _) (.cons (Cov.refl _) .nil))), rfl⟩
   ·cases h
  ·cases h
 ·cases h

def l130 : List (FuncId × (List AV → Option (AV × Bool))) :=
 (84, g_nFormed) :: l11
theorem l130_ok : ∀ p ∈ l130, EntOk Tryd.prog p.1 p.2 := ent_cons e_nFormed (l11_ok)
def PT130 : PTab := tab l130
theorem PT130_ok : PTok Tryd.prog PT130 := tab_ok l130_ok
@[simp] theorem PT130_nFormed : PT130 84 = g_nFormed := rfl
@[simp] theorem PT130_old (f : FuncId) (h : decide (f ≠ 84) = true) : PT130 f = PT11 f := tab_old (of_decide_eq_true h)
end Go.Proofs.YtecdhmiamlgibaaDoor
/- Ch39: node.Check; no condition. -/
namespace Go.Proofs.YtecdhmiamlgibaaDoor
set_option linter.unusedVariables false
set_option linter.unusedSimpArgs false
set_option linter.unusedSectionVars false
open Go.RowKit
open Wlk
attribute [-simp] List.getD_eq_getElem?_getD
set_option maxRecDepth 100000
theorem all_rangeN {n : Nat} {f : Nat → Bool} (h : ∀ j, j < n → f j = true) : (List.range n).all f = true := List.all_eq_true.2 fun j hj => h j (List.mem_range.1 hj)
theorem all_rangeF {n j : Nat} {f : Nat → Bool} (hj : j < n) (h : f j = false) : (List.range n).all f = false := List.all_eq_false.2 ⟨j, List.mem_range.2 hj, by rw [h]; decide⟩
def errN (N : Int) (ns : List Nd) : Int := if validN N ns = true then 0 else 1
theorem valid_no {N : Int} {ns : List Nd} (h : N < 0 ∨ 128 < N ∨ ns.length = 0 ∨ 65536 < ns.length) : validN N ns = false := by
 unfold validN
 rcases h with h | h | h | h
 ·rw [decide_eq_false (show ¬ 0 ≤ N by omega)]; simp
 ·rw [decide_eq_false (show ¬ N ≤ 128 by omega)]; simp
 ·rw [decide_eq_false (show ¬ 1 ≤ ns.length by omega)]; simp
 ·rw [decide_eq_false (show ¬ ns.length ≤ 65536 by omega)]; simp
theorem valid_not {N : Int} {ns : List Nd} {k : Nat} (hk : k < ns.length) (h : formB (ns.getD k nd0) N k = false) : validN N ns = false := by
 unfold validN
 rw [all_rangeF (f := fun i => formB (ns.getD i nd0) N i) hk h]; simp
theorem valid_yes {N : Int} {ns : List Nd} (h1 : 0 ≤ N) (h2 : N ≤ 128) (h3 : 1 ≤ ns.length) (h4 : ns.length ≤ 65536) (h : ∀ j, j < ns.length → formB (ns.getD j nd0) N j = true) : validN N ns = true := by
 unfold validN
 rw [decide_eq_true h1, decide_eq_true h2, decide_eq_true h3, decide_eq_true h4, all_rangeN (f := fun i => formB (ns.getD i nd0) N i) h]; rfl
theorem check_p (N : Int) (ns : List Nd) (hN : okI N = true) (h : okNs ns = true) : FnPure Tryd.prog 55 [aNet N ns] (.v (.int .i64 (errN N ns))) := by
 have hl := okNs_len h
 unfold aNet aNds errN
 by_cases n0 : N < 0
 ·rw [valid_no (.inl n0)]
  refine fn_sp TT_ok Tryd.func55 (c := _) rfl (by simp [Tryd.ntmps55]) (fun B hI0 hro => ?_)
  rw [Tryd.ntmps55]
  simp only [enumA]
  refine amGo PT130_ok (h := ?_)
  (refine amRt Tryd.results55 (h := ?_); try simp [*])
 by_cases n1 : 128 < N
 ·rw [valid_no (.inr (.inl n1))]
  refine fn_sp TT_ok Tryd.func55 (c := _) rfl (by simp [Tryd.ntmps55]) (fun B hI0 hro => ?_)
  rw [Tryd.ntmps55]
  simp only [enumA]
  refine amGo PT130_ok (h := ?_)
  (refine amRt Tryd.results55 (h := ?_); try simp [*])
 by_cases l0 : ns.length = 0
 ·rw [valid_no (.inr (.inr (.inl l0)))]
  have l1 : (ns.length : Int) < 1 := by omega
  refine fn_sp TT_ok Tryd.func55 (c := _) rfl (by simp [Tryd.ntmps55]) (fun B hI0 hro => ?_)
  rw [Tryd.ntmps55]
  simp only [enumA]
  refine amGo PT130_ok (h := ?_)
  (refine amRt Tryd.results55 (h := ?_); try simp [*])
 have l1 : ¬ (ns.length : Int) < 1 := by omega
 have l2 : ¬ (65536 : Int) < (ns.length : Int) := by omega
 refine fn_sp TT_ok Tryd.func55 (c := _) rfl (by simp [Tryd.ntmps55]) (fun B hI0 hro => ?_)
 rw [Tryd.ntmps55]
 simp only [enumA]
 refine amGo PT130_ok (h := ?_)
 refine s_loop (J := fun i : {k : Nat // k ≤ ns.length ∧ ∀ j, j < k → formB (ns.getD j nd0) N j = true} => ⟨40, [(1, .ptr 0 0 0), (26, .sl 3 (ns.map fun x => [AV.v (.int .i64 x.1), .v (.int .i64 x.2.1), aInts x.2.2])), (27, .v (.int .i64 (ns.length : Int))), (28, .v (.int .i64 (i.1 : Int)))], [(0, ⟨24, 2, [[.v (.int .i64 N), .sl 3 (ns.map fun x => [AV.v (.int .i64 x.1), .v (.int .i64 x.2.1), aInts x.2.2])]]⟩)], [0]⟩) (μ := fun i => ns.length - i.1) ⟨0, Nat.zero_le _, fun j hj => by omega⟩ ?_ (fun ⟨k, hk, he⟩ => ?_)
 ·(refine weak_id rfl ?_ ?_ <;> ((try simp only [List.mem_cons, List.not_mem_nil, or_false, forall_eq_or_imp, forall_eq]); (try simp (disch := omega) [i64w, *])))
 refine amGo PT130_ok (h := ?_)
 (focus ((with_reducible refine sp_cond (b := ?_) ?_ (fun hc => ?_) (fun hc => ?_)); rotate_left; (focus (first | rfl | (simp [lk, AS.ev]; rfl))); all_goals (try simp at hc)))
 ·have hkk := hc
  clear hc
  obtain ⟨o1, o2, o3, _⟩ := okNs_at h hkk
  have o4 : okI (k : Int) = true := okI_iff.2 ⟨by omega, by omega⟩
  cases h1 : formB (ns.getD k nd0) N k
  ·have hv := valid_not hkk h1
   refine amGo PT130_ok (h := ?_)
   (refine amRt Tryd.results55 (h := ?_); try simp [*])
  ·refine amGo PT130_ok (h := ?_)
   refine k_lp (⟨k + 1, by omega, fun j hj => ?_⟩ : {k : Nat // k ≤ ns.length ∧ ∀ j, j < k → formB (ns.getD j nd0) N j = true}) (by dsimp only; omega) ?_
   ·by_cases e : j < k
    ·exact he j e
    ·obtain rfl : j = k := by omega
     exact h1
   ·(refine weak_id rfl ?_ ?_ <;> ((try simp only [List.mem_cons, List.not_mem_nil, or_false, forall_eq_or_imp, forall_eq]); (try simp (disch := omega) [i64w, *])))
 ·obtain rfl : k = ns.length := by omega
  have hv := valid_yes (by omega) (by omega) (by omega) (by omega) he
  refine amGo PT130_ok (h := ?_)
  (refine amRt Tryd.results55 (h := ?_); try simp [*])
@[simp] def g_nCheck : List AV → Option (AV × Bool)
 | [.agg [.v (.int .i64 N), a0]] => (match toNds a0 with | some ns => if (okI N && okNs ns) = true then some (.v (.int .i64 (errN N ns)), false) else none | none => none)
 | _ => none
theorem e_nCheck : EntOk Tryd.prog 55 g_nCheck := ent_pure (by kernel_rfl) fun args r fr h => by
 unfold g_nCheck at h
 split at h
 ·rename_i N a0
  split at h
  ·rename_i ns t0
   split at h
   ·rename_i hc
    simp only [Bool.and_eq_true] at hc
    obtain ⟨m0, o0⟩ := hc
    cases h
    exact ⟨FnPure.cov (check_p N ns m0 o0) (.cons (cov_th _ (cov_nds t0)) .nil), rfl⟩
   ·cases h
  ·cases h
 ·cases h

def l131 : List (FuncId × (List AV → Option (AV × Bool))) :=
 (55, g_nCheck) :: l130
theorem l131_ok : ∀ p ∈ l131, EntOk Tryd.prog p.1 p.2 := ent_cons e_nCheck (l130_ok)
def PT131 : PTab := tab l131
theorem PT131_ok : PTok Tryd.prog PT131 := tab_ok l131_ok
@[simp] theorem PT131_nCheck : PT131 55 = g_nCheck := rfl
@[simp] theorem PT131_old (f : FuncId) (h : decide (f ≠ 55) = true) : PT131 f = PT130 f := tab_old (of_decide_eq_true h)
end Go.Proofs.YtecdhmiamlgibaaDoor
/- Rv39: The reference's Var, Valid and Formed; no condition. -/
namespace Go.Proofs.YtecdhmiamlgibaaDoor
set_option linter.unusedVariables false
set_option linter.unusedSimpArgs false
set_option linter.unusedSectionVars false
open Go.RowKit
open Wlk
attribute [-simp] List.getD_eq_getElem?_getD
set_option maxRecDepth 100000
theorem rVar_p (l : Int) (h : okI l = true) : FnPure Tryd.prog 97 [.v (.int .i64 l)] (.v (.int .i64 (litVar l))) := by
 have hI := okI_iff.1 h
 by_cases h1 : 1 ≤ l
 ·by_cases h2 : l ≤ 128
  ·rw [litVar_pos h1 h2]
   refine fn_sp TT_ok Tryd.func97 (c := _) rfl (by simp [Tryd.ntmps97]) (fun B hI0 hro => ?_)
   rw [Tryd.ntmps97]
   simp only [enumA]
   refine amGo PT131_ok (h := ?_)
   (refine amRt Tryd.results97 (h := ?_); try simp [*])
  ·rw [litVar_no (by omega)]
   have h3 : ¬ l ≤ -1 := by omega
   have h4 : -128 ≤ l := by omega
   refine fn_sp TT_ok Tryd.func97 (c := _) rfl (by simp [Tryd.ntmps97]) (fun B hI0 hro => ?_)
   rw [Tryd.ntmps97]
   simp only [enumA]
   refine amGo PT131_ok (h := ?_)
   (refine amRt Tryd.results97 (h := ?_); try simp [*])
 ·by_cases h2 : -128 ≤ l
  ·by_cases h3 : l ≤ -1
   ·rw [litVar_neg h2 h3]
    have hw : IntKind.i64.wrap (-l) = -l := i64w (by omega) (by omega)
    refine fn_sp TT_ok Tryd.func97 (c := _) rfl (by simp [Tryd.ntmps97]) (fun B hI0 hro => ?_)
    rw [Tryd.ntmps97]
    simp only [enumA]
    refine amGo PT131_ok (h := ?_)
    (refine amRt Tryd.results97 (h := ?_); try simp [*])
   ·rw [litVar_no (by omega)]
    refine fn_sp TT_ok Tryd.func97 (c := _) rfl (by simp [Tryd.ntmps97]) (fun B hI0 hro => ?_)
    rw [Tryd.ntmps97]
    simp only [enumA]
    refine amGo PT131_ok (h := ?_)
    (refine amRt Tryd.results97 (h := ?_); try simp [*])
  ·rw [litVar_no (by omega)]
   refine fn_sp TT_ok Tryd.func97 (c := _) rfl (by simp [Tryd.ntmps97]) (fun B hI0 hro => ?_)
   rw [Tryd.ntmps97]
   simp only [enumA]
   refine amGo PT131_ok (h := ?_)
   (refine amRt Tryd.results97 (h := ?_); try simp [*])
@[simp] def g_r4Var : List AV → Option (AV × Bool)
 | [.v (.int .i64 l)] => if (okI l) = true then some (.v (.int .i64 (litVar l)), false) else none
 | _ => none
theorem e_r4Var : EntOk Tryd.prog 97 g_r4Var := ent_pure (by kernel_rfl) fun args r fr h => by
 unfold g_r4Var at h
 split at h
 ·rename_i l
  split at h
  ·rename_i hc
   have o0 := hc
   cases h
   exact ⟨FnPure.cov (rVar_p l o0) (.cons (Cov.refl _) .nil), rfl⟩
  ·cases h
 ·cases h

def l132 : List (FuncId × (List AV → Option (AV × Bool))) :=
 (97, g_r4Var) :: l131
theorem l132_ok : ∀ p ∈ l132, EntOk Tryd.prog p.1 p.2 := ent_cons e_r4Var (l131_ok)
def PT132 : PTab := tab l132
theorem PT132_ok : PTok Tryd.prog PT132 := tab_ok l132_ok
@[simp] theorem PT132_r4Var : PT132 97 = g_r4Var := rfl
@[simp] theorem PT132_old (f : FuncId) (h : decide (f ≠ 97) = true) : PT132 f = PT131 f := tab_old (of_decide_eq_true h)
end Go.Proofs.YtecdhmiamlgibaaDoor
/- Rw39: The reference's Valid of a literal; no condition. -/
namespace Go.Proofs.YtecdhmiamlgibaaDoor
set_option linter.unusedVariables false
set_option linter.unusedSimpArgs false
set_option linter.unusedSectionVars false
open Go.RowKit
open Wlk
attribute [-simp] List.getD_eq_getElem?_getD
set_option maxRecDepth 100000
theorem r4Valid_p (l n : Int) (h : okI l = true) (hn : okI n = true) : FnPure Tryd.prog 96 [.v (.int .i64 l), .v (.int .i64 n)] (.v (.bool (litOk l n))) := by
 obtain ⟨v1, v2⟩ := litVar_range l
 unfold litOk
 by_cases h1 : 0 < litVar l
 ·rw [decide_eq_true h1, Bool.true_and]
  refine fn_sp TT_ok Tryd.func96 (c := _) rfl (by simp [Tryd.ntmps96]) (fun B hI0 hro => ?_)
  rw [Tryd.ntmps96]
  simp only [enumA]
  refine amGo PT132_ok (h := ?_)
  (refine amRt Tryd.results96 (h := ?_); try simp [*])
 ·rw [decide_eq_false h1, Bool.false_and]
  refine fn_sp TT_ok Tryd.func96 (c := _) rfl (by simp [Tryd.ntmps96]) (fun B hI0 hro => ?_)
  rw [Tryd.ntmps96]
  simp only [enumA]
  refine amGo PT132_ok (h := ?_)
  (refine amRt Tryd.results96 (h := ?_); try simp [*])
@[simp] def g_r4Valid : List AV → Option (AV × Bool)
 | [.v (.int .i64 l), .v (.int .i64 n)] => if (okI l && okI n) = true then some (.v (.bool (litOk l n)), false) else none
 | _ => none
theorem e_r4Valid : EntOk Tryd.prog 96 g_r4Valid := ent_pure (by kernel_rfl) fun args r fr h => by
 unfold g_r4Valid at h
 split at h
 ·rename_i l n
  split at h
  ·rename_i hc
   simp only [Bool.and_eq_true] at hc
   obtain ⟨o0, o1⟩ := hc
   cases h
   exact ⟨FnPure.cov (r4Valid_p l n o0 o1) (.cons (Cov.refl _) (.cons (Cov.refl _) .nil)), rfl⟩
  ·cases h
 ·cases h

def l133 : List (FuncId × (List AV → Option (AV × Bool))) :=
 (96, g_r4Valid) :: l132
theorem l133_ok : ∀ p ∈ l133, EntOk Tryd.prog p.1 p.2 := ent_cons e_r4Valid (l132_ok)
def PT133 : PTab := tab l133
theorem PT133_ok : PTok Tryd.prog PT133 := tab_ok l133_ok
@[simp] theorem PT133_r4Valid : PT133 96 = g_r4Valid := rfl
@[simp] theorem PT133_old (f : FuncId) (h : decide (f ≠ 96) = true) : PT133 f = PT132 f := tab_old (of_decide_eq_true h)
end Go.Proofs.YtecdhmiamlgibaaDoor
/- Ry39: The reference's Formed; no condition. -/
namespace Go.Proofs.YtecdhmiamlgibaaDoor
set_option linter.unusedVariables false
set_option linter.unusedSimpArgs false
set_option linter.unusedSectionVars false
open Go.RowKit
open Wlk
attribute [-simp] List.getD_eq_getElem?_getD
set_option maxRecDepth 100000
theorem all_bad {xs : List Int} {i : Int} {j : Nat} (hj : j < xs.length) (h : badIn i (xs.getD j 0) = true) : (xs.all fun k => decide (0 ≤ k) && decide (k < i)) = false := by
 have h2 := badIn_any xs i
 have : xs.any (badIn i) = true := List.any_eq_true.2 ⟨xs.getD j 0, by simp [List.getD, hj], h⟩
 rw [this] at h2
 simpa using h2.symm
theorem all_good {xs : List Int} {i : Int} (h : ∀ j, j < xs.length → badIn i (xs.getD j 0) = false) : (xs.all fun k => decide (0 ≤ k) && decide (k < i)) = true := by
 have h2 := badIn_any xs i
 have : xs.any (badIn i) = false := by
  rw [List.any_eq_false]
  intro x hx
  obtain ⟨j, hj, rfl⟩ := List.mem_iff_getElem.1 hx
  have := h j hj
  simp only [List.getD, List.getElem?_eq_getElem hj, Option.getD_some] at this
  rw [this]; decide
 rw [this] at h2
 simpa using h2.symm
theorem rFormed_p (k l n i : Int) (xs : List Int) (hk : okI k = true) (hl : okI l = true) (hx : okInts xs = true) (hn : okI n = true) (hi : okI i = true) : FnPure Tryd.prog 69 [.agg [.v (.int .i64 k), .v (.int .i64 l), aInts xs], .v (.int .i64 n), .v (.int .i64 i)] (.v (.bool (formB (k, l, xs) n i))) := by
 have hm := okInts_len hx
 unfold formB
 refine fn_sp TT_ok Tryd.func69 (c := _) rfl (by simp [Tryd.ntmps69]) (fun B hI0 hro => ?_)
 rw [Tryd.ntmps69]
 simp only [enumA]
 refine amGo PT133_ok (h := ?_)
 refine s_loop (J := fun j : {j : Nat // j ≤ xs.length ∧ ∀ m, m < j → badIn i (xs.getD m 0) = false} => ⟨62, [(1, .v (.int .i64 n)), (2, .v (.int .i64 i)), (3, .ptr 0 0 0), (7, .v (.int .i64 (j.1 : Int)))], [(0, ⟨57, 3, [[.v (.int .i64 k), .v (.int .i64 l), aInts xs]]⟩)], [0]⟩) (μ := fun j => xs.length - j.1) ⟨0, Nat.zero_le _, fun m hm => by omega⟩ ?_ (fun ⟨j, hj, he⟩ => ?_)
 ·(refine weak_id rfl ?_ ?_ <;> ((try simp only [List.mem_cons, List.not_mem_nil, or_false, forall_eq_or_imp, forall_eq]); (try simp (disch := omega) [i64w, *])))
 refine amGo PT133_ok (h := ?_)
 (focus ((with_reducible refine sp_cond (b := ?_) ?_ (fun hc => ?_) (fun hc => ?_)); rotate_left; (focus (first | rfl | (simp [lk, AS.ev]; rfl))); all_goals (try simp at hc)))
 ·have hkk := hc
  clear hc
  have ho := okI_iff.2 (okInts_at hx j)
  by_cases h1 : xs.getD j 0 < 0
  ·rw [all_bad hkk (by unfold badIn; rw [decide_eq_true h1]; rfl), Bool.false_and]
   refine amGo PT133_ok (h := ?_)
   (refine amRt Tryd.results69 (h := ?_); try simp [*])
  ·by_cases h2 : i ≤ xs.getD j 0
   ·rw [all_bad hkk (by unfold badIn; rw [decide_eq_true h2, Bool.or_true]), Bool.false_and]
    refine amGo PT133_ok (h := ?_)
    (refine amRt Tryd.results69 (h := ?_); try simp [*])
   ·have h3 : badIn i (xs.getD j 0) = false := by unfold badIn; rw [decide_eq_false h1, decide_eq_false h2]; rfl
    refine amGo PT133_ok (h := ?_)
    refine k_lp (⟨j + 1, by omega, fun m hm => ?_⟩ : {j : Nat // j ≤ xs.length ∧ ∀ m, m < j → badIn i (xs.getD m 0) = false}) (by dsimp only; omega) ?_
    ·by_cases e : m < j
     ·exact he m e
     ·obtain rfl : m = j := by omega
      exact h3
    ·(refine weak_id rfl ?_ ?_ <;> ((try simp only [List.mem_cons, List.not_mem_nil, or_false, forall_eq_or_imp, forall_eq]); (try simp (disch := omega) [i64w, *])))
 ·obtain rfl : j = xs.length := by omega
  rw [all_good he, Bool.true_and]
  clear hc
  by_cases k0 : k = 0
  ·subst k0
   by_cases z : l = 0
   ·refine amGo PT133_ok (h := ?_)
    (refine amRt Tryd.results69 (h := ?_); try simp [*])
    all_goals (rw [Bool.eq_iff_iff]; simp; try omega)
   ·have hz : (l == 0) = false := by simp [z]
    refine amGo PT133_ok (h := ?_)
    (refine amRt Tryd.results69 (h := ?_); try simp [*])
  by_cases k1 : k = 1
  ·subst k1
   by_cases z : l = 0
   ·refine amGo PT133_ok (h := ?_)
    (refine amRt Tryd.results69 (h := ?_); try simp [*])
    all_goals (rw [Bool.eq_iff_iff]; simp; try omega)
   ·have hz : (l == 0) = false := by simp [z]
    refine amGo PT133_ok (h := ?_)
    (refine amRt Tryd.results69 (h := ?_); try simp [*])
  by_cases k2 : k = 2
  ·subst k2
   cases z : litOk l n
   ·refine amGo PT133_ok (h := ?_)
    (refine amRt Tryd.results69 (h := ?_); try simp [*])
   ·refine amGo PT133_ok (h := ?_)
    (refine amRt Tryd.results69 (h := ?_); try simp [*])
    all_goals (rw [Bool.eq_iff_iff]; simp; try omega)
  by_cases k3 : k = 3
  ·subst k3
   refine amGo PT133_ok (h := ?_)
   (refine amRt Tryd.results69 (h := ?_); try simp [*])
   all_goals (rw [Bool.eq_iff_iff]; simp)
  by_cases k4 : k = 4
  ·subst k4
   refine amGo PT133_ok (h := ?_)
   (refine amRt Tryd.results69 (h := ?_); try simp [*])
   all_goals (rw [Bool.eq_iff_iff]; simp)
  refine amGo PT133_ok (h := ?_)
  (refine amRt Tryd.results69 (h := ?_); try simp [*])
@[simp] def g_rFormed : List AV → Option (AV × Bool)
 | [.agg [.v (.int .i64 k), .v (.int .i64 l), a0], .v (.int .i64 n), .v (.int .i64 i)] => (match toInts a0 with | some xs => if (okI k && okI l && okInts xs && okI n && okI i) = true then some (.v (.bool (formB (k, l, xs) n i)), false) else none | none => none)
 | _ => none
theorem e_rFormed : EntOk Tryd.prog 69 g_rFormed := ent_pure (by kernel_rfl) fun args r fr h => by
 unfold g_rFormed at h
 split at h
 ·rename_i k l a0 n i
  split at h
  ·rename_i xs t0
   split at h
   ·rename_i hc
    simp only [Bool.and_eq_true] at hc
    obtain ⟨⟨⟨⟨m0, l0⟩, o0⟩, o1⟩, o2⟩ := hc
    cases h
    exact ⟨FnPure.cov (rFormed_p k l n i xs m0 l0 o0 o1 o2) (.cons (cov_nd _ _ t0) (.cons (Cov.refl _) (.cons (Cov.refl _) .nil))), rfl⟩
   ·cases h
  ·cases h
 ·cases h

def l134 : List (FuncId × (List AV → Option (AV × Bool))) :=
 (69, g_rFormed) :: l133
theorem l134_ok : ∀ p ∈ l134, EntOk Tryd.prog p.1 p.2 := ent_cons e_rFormed (l133_ok)
def PT134 : PTab := tab l134
theorem PT134_ok : PTok Tryd.prog PT134 := tab_ok l134_ok
@[simp] theorem PT134_rFormed : PT134 69 = g_rFormed := rfl
@[simp] theorem PT134_old (f : FuncId) (h : decide (f ≠ 69) = true) : PT134 f = PT133 f := tab_old (of_decide_eq_true h)
end Go.Proofs.YtecdhmiamlgibaaDoor
/- Vd39: The reference's Valid of a net; no condition. -/
namespace Go.Proofs.YtecdhmiamlgibaaDoor
set_option linter.unusedVariables false
set_option linter.unusedSimpArgs false
set_option linter.unusedSectionVars false
open Go.RowKit
open Wlk
attribute [-simp] List.getD_eq_getElem?_getD
set_option maxRecDepth 100000
theorem rValid20_p (N : Int) (ns : List Nd) (hN : okI N = true) (h : okNs ns = true) : FnPure Tryd.prog 40 [aNet N ns] (.v (.bool (validN N ns))) := by
 have hl := okNs_len h
 unfold aNet aNds
 by_cases n0 : N < 0
 ·rw [valid_no (.inl n0)]
  refine fn_sp TT_ok Tryd.func40 (c := _) rfl (by simp [Tryd.ntmps40]) (fun B hI0 hro => ?_)
  rw [Tryd.ntmps40]
  simp only [enumA]
  refine amGo PT134_ok (h := ?_)
  (refine amRt Tryd.results40 (h := ?_); try simp [*])
 by_cases n1 : 128 < N
 ·rw [valid_no (.inr (.inl n1))]
  refine fn_sp TT_ok Tryd.func40 (c := _) rfl (by simp [Tryd.ntmps40]) (fun B hI0 hro => ?_)
  rw [Tryd.ntmps40]
  simp only [enumA]
  refine amGo PT134_ok (h := ?_)
  (refine amRt Tryd.results40 (h := ?_); try simp [*])
 by_cases l0 : ns.length = 0
 ·rw [valid_no (.inr (.inr (.inl l0)))]
  have l1 : (ns.length : Int) < 1 := by omega
  refine fn_sp TT_ok Tryd.func40 (c := _) rfl (by simp [Tryd.ntmps40]) (fun B hI0 hro => ?_)
  rw [Tryd.ntmps40]
  simp only [enumA]
  refine amGo PT134_ok (h := ?_)
  (refine amRt Tryd.results40 (h := ?_); try simp [*])
 have l1 : ¬ (ns.length : Int) < 1 := by omega
 have l2 : ¬ (65536 : Int) < (ns.length : Int) := by omega
 refine fn_sp TT_ok Tryd.func40 (c := _) rfl (by simp [Tryd.ntmps40]) (fun B hI0 hro => ?_)
 rw [Tryd.ntmps40]
 simp only [enumA]
 refine amGo PT134_ok (h := ?_)
 refine s_loop (J := fun i : {k : Nat // k ≤ ns.length ∧ ∀ j, j < k → formB (ns.getD j nd0) N j = true} => ⟨41, [(1, .ptr 0 0 0), (3, .v (.int .i64 (i.1 : Int)))], [(0, ⟨24, 2, [[.v (.int .i64 N), .sl 3 (ns.map fun x => [AV.v (.int .i64 x.1), .v (.int .i64 x.2.1), aInts x.2.2])]]⟩)], [0]⟩) (μ := fun i => ns.length - i.1) ⟨0, Nat.zero_le _, fun j hj => by omega⟩ ?_ (fun ⟨k, hk, he⟩ => ?_)
 ·(refine weak_id rfl ?_ ?_ <;> ((try simp only [List.mem_cons, List.not_mem_nil, or_false, forall_eq_or_imp, forall_eq]); (try simp (disch := omega) [i64w, *])))
 refine amGo PT134_ok (h := ?_)
 (focus ((with_reducible refine sp_cond (b := ?_) ?_ (fun hc => ?_) (fun hc => ?_)); rotate_left; (focus (first | rfl | (simp [lk, AS.ev]; rfl))); all_goals (try simp at hc)))
 ·have hkk := hc
  clear hc
  obtain ⟨o1, o2, o3, _⟩ := okNs_at h hkk
  have o4 : okI (k : Int) = true := okI_iff.2 ⟨by omega, by omega⟩
  cases h1 : formB (ns.getD k nd0) N k
  ·have hv := valid_not hkk h1
   refine amGo PT134_ok (h := ?_)
   (refine amRt Tryd.results40 (h := ?_); try simp [*])
  ·refine amGo PT134_ok (h := ?_)
   refine k_lp (⟨k + 1, by omega, fun j hj => ?_⟩ : {k : Nat // k ≤ ns.length ∧ ∀ j, j < k → formB (ns.getD j nd0) N j = true}) (by dsimp only; omega) ?_
   ·by_cases e : j < k
    ·exact he j e
    ·obtain rfl : j = k := by omega
     exact h1
   ·(refine weak_id rfl ?_ ?_ <;> ((try simp only [List.mem_cons, List.not_mem_nil, or_false, forall_eq_or_imp, forall_eq]); (try simp (disch := omega) [i64w, *])))
 ·obtain rfl : k = ns.length := by omega
  have hv := valid_yes (by omega) (by omega) (by omega) (by omega) he
  refine amGo PT134_ok (h := ?_)
  (refine amRt Tryd.results40 (h := ?_); try simp [*])
@[simp] def g_rValid20 : List AV → Option (AV × Bool)
 | [.agg [.v (.int .i64 N), a0]] => (match toNds a0 with | some ns => if (okI N && okNs ns) = true then some (.v (.bool (validN N ns)), false) else none | none => none)
 | _ => none
theorem e_rValid20 : EntOk Tryd.prog 40 g_rValid20 := ent_pure (by kernel_rfl) fun args r fr h => by
 unfold g_rValid20 at h
 split at h
 ·rename_i N a0
  split at h
  ·rename_i ns t0
   split at h
   ·rename_i hc
    simp only [Bool.and_eq_true] at hc
    obtain ⟨m0, o0⟩ := hc
    cases h
    exact ⟨FnPure.cov (rValid20_p N ns m0 o0) (.cons (cov_th _ (cov_nds t0)) .nil), rfl⟩
   ·cases h
  ·cases h
 ·cases h

def l135 : List (FuncId × (List AV → Option (AV × Bool))) :=
 (40, g_rValid20) :: l134
theorem l135_ok : ∀ p ∈ l135, EntOk Tryd.prog p.1 p.2 := ent_cons e_rValid20 (l134_ok)
def PT135 : PTab := tab l135
theorem PT135_ok : PTok Tryd.prog PT135 := tab_ok l135_ok
@[simp] theorem PT135_rValid20 : PT135 40 = g_rValid20 := rfl
@[simp] theorem PT135_old (f : FuncId) (h : decide (f ≠ 40) = true) : PT135 f = PT134 f := tab_old (of_decide_eq_true h)
end Go.Proofs.YtecdhmiamlgibaaDoor
/- Hs39: The reference's Has, List and Len of a set; no condition. -/
namespace Go.Proofs.YtecdhmiamlgibaaDoor
set_option linter.unusedVariables false
set_option linter.unusedSimpArgs false
set_option linter.unusedSectionVars false
open Go.RowKit
open Wlk
attribute [-simp] List.getD_eq_getElem?_getD
set_option maxRecDepth 100000
theorem shr_bit (x : BitVec 64) (k : Nat) : ((((x.toNat : Int)).fdiv (2 ^ k)).tmod 2 == 1) = x.getLsbD k := by
 have e : ((x.toNat : Int)).fdiv (2 ^ k) = ((x.toNat / 2 ^ k : Nat) : Int) := by
  rw [Int.fdiv_eq_ediv_of_nonneg _ (by exact Int.le_of_lt (Int.pow_pos (by decide)))]
  simp
 rw [e, BitVec.getLsbD, Nat.testBit_eq_decide_div_mod_eq]
 generalize x.toNat / 2 ^ k = m
 rw [Int.tmod_eq_emod_of_nonneg (by omega), Bool.eq_iff_iff]
 simp
 omega
def listT (s : BitVec 128) (k : Nat) : List Int := ((List.range k).filter fun i : Nat => sHas s ((i : Int) + 1)).map fun i : Nat => (i : Int) + 1
theorem listT_succ (s : BitVec 128) (k : Nat) : listT s (k + 1) = if sHas s ((k : Int) + 1) = true then listT s k ++ [(k : Int) + 1] else listT s k := by
 unfold listT
 rw [List.range_succ, List.filter_append, List.map_append]
 split
 ·rename_i h; simp [h]
 ·rename_i h; simp [h]
theorem listT_len (s : BitVec 128) (k : Nat) : (listT s k).length ≤ k := by
 unfold listT
 rw [List.length_map]
 exact Nat.le_trans (List.length_filter_le _ _) (by simp)
theorem bitsW_filter (x : BitVec 64) : bitsW x.toNat = (List.range 64).filter fun i => x.getLsbD i := rfl
theorem listT_eq (s : BitVec 128) : listT s 128 = listS s := by
 unfold listT listS wVars
 rw [bitsW_filter, bitsW_filter]
 rw [show (128 : Nat) = 64 + 64 from rfl, List.range_add, List.filter_append, List.map_append, List.filter_map, List.map_map]
 congr 1
 ·rw [show (List.range 64).filter (fun i : Nat => sHas s ((i : Int) + 1)) = (List.range 64).filter (fun i => (lo s).getLsbD i) from List.filter_congr fun i hi => by
   have hi2 := List.mem_range.1 hi
   rw [sHas_lo s _ (by omega) (by omega)]; congr 1; omega]
  exact List.map_congr_left fun i _ => by omega
 ·rw [show (List.range 64).filter ((fun i : Nat => sHas s ((i : Int) + 1)) ∘ fun x => 64 + x) = (List.range 64).filter (fun i => (hi s).getLsbD i) from List.filter_congr fun i hi => by
   have hi2 := List.mem_range.1 hi
   simp only [Function.comp]
   rw [sHas_hi s _ (by omega) (by omega)]; congr 1; omega]
  exact List.map_congr_left fun i _ => by simp only [Function.comp]; omega
theorem r3Has_p (s : BitVec 128) (v : Int) (hv : okI v = true) : FnPure Tryd.prog 83 [aSet s, .v (.int .i64 v)] (.v (.bool (sHas s v))) := by
 unfold aSet WV
 by_cases h1 : v < 1
 ·rw [sHas_out s v (.inl h1)]
  refine fn_sp TT_ok Tryd.func83 (c := _) rfl (by simp [Tryd.ntmps83]) (fun B hI0 hro => ?_)
  rw [Tryd.ntmps83]
  simp only [enumA]
  refine amGo PT135_ok (h := ?_)
  (refine amRt Tryd.results83 (h := ?_); try simp [*])
 by_cases h2 : 128 < v
 ·rw [sHas_out s v (.inr h2)]
  refine fn_sp TT_ok Tryd.func83 (c := _) rfl (by simp [Tryd.ntmps83]) (fun B hI0 hro => ?_)
  rw [Tryd.ntmps83]
  simp only [enumA]
  refine amGo PT135_ok (h := ?_)
  (refine amRt Tryd.results83 (h := ?_); try simp [*])
 have w1 : IntKind.i64.wrap (v - 1) = v - 1 := i64w (by omega) (by omega)
 by_cases h3 : v ≤ 64
 ·obtain ⟨q1, q2⟩ := quo64_lo (by omega : 1 ≤ v) h3
  have w2 : IntKind.u64.wrap (v - 1) = v - 1 := u64w (by omega) (by omega)
  rw [sHas_lo s v (by omega) h3]
  have f3 : ¬ (v - 1 < 0) := by omega
  have g1 := (shl_lo (by omega : 1 ≤ v) h3).1
  refine fn_sp TT_ok Tryd.func83 (c := _) rfl (by simp [Tryd.ntmps83]) (fun B hI0 hro => ?_)
  rw [Tryd.ntmps83]
  simp only [enumA]
  refine amGo PT135_ok (h := ?_)
  (refine amRt Tryd.results83 (h := ?_); try simp [*])
  all_goals exact shr_bit _ _
 ·obtain ⟨q1, q2⟩ := quo64_hi (by omega : 65 ≤ v) (by omega)
  have w2 : IntKind.u64.wrap (v - 65) = v - 65 := u64w (by omega) (by omega)
  rw [sHas_hi s v (by omega) (by omega)]
  have f3 : ¬ (v - 65 < 0) := by omega
  have g1 := (shl_hi (by omega : 65 ≤ v) (by omega)).1
  refine fn_sp TT_ok Tryd.func83 (c := _) rfl (by simp [Tryd.ntmps83]) (fun B hI0 hro => ?_)
  rw [Tryd.ntmps83]
  simp only [enumA]
  refine amGo PT135_ok (h := ?_)
  (refine amRt Tryd.results83 (h := ?_); try simp [*])
  all_goals exact shr_bit _ _
@[simp] def g_r3Has : List AV → Option (AV × Bool)
 | [a0, .v (.int .i64 v)] => (match toSet a0 with | some s => if (okI v) = true then some (.v (.bool (sHas s v)), false) else none | none => none)
 | _ => none
theorem e_r3Has : EntOk Tryd.prog 83 g_r3Has := ent_pure (by kernel_rfl) fun args r fr h => by
 unfold g_r3Has at h
 split at h
 ·rename_i a0 v
  split at h
  ·rename_i s t0
   split at h
   ·rename_i hc
    have o1 := hc
    cases h
    exact ⟨FnPure.cov (r3Has_p s v o1) (.cons (toSet_inv t0 ▸ Cov.refl _) (.cons (Cov.refl _) .nil)), rfl⟩
   ·cases h
  ·cases h
 ·cases h

def l136 : List (FuncId × (List AV → Option (AV × Bool))) :=
 (83, g_r3Has) :: l135
theorem l136_ok : ∀ p ∈ l136, EntOk Tryd.prog p.1 p.2 := ent_cons e_r3Has (l135_ok)
def PT136 : PTab := tab l136
theorem PT136_ok : PTok Tryd.prog PT136 := tab_ok l136_ok
@[simp] theorem PT136_r3Has : PT136 83 = g_r3Has := rfl
@[simp] theorem PT136_old (f : FuncId) (h : decide (f ≠ 83) = true) : PT136 f = PT135 f := tab_old (of_decide_eq_true h)
end Go.Proofs.YtecdhmiamlgibaaDoor
/- Hl39: The reference's List of a set; no condition. -/
namespace Go.Proofs.YtecdhmiamlgibaaDoor
set_option linter.unusedVariables false
set_option linter.unusedSimpArgs false
set_option linter.unusedSectionVars false
open Go.RowKit
open Wlk
attribute [-simp] List.getD_eq_getElem?_getD
set_option maxRecDepth 100000
theorem r3List_p (s : BitVec 128) : FnPure Tryd.prog 70 [aSet s] (aInts (listS s)) := by
 rw [← listT_eq s]
 unfold aSet WV
 refine fn_sp TT_ok Tryd.func70 (c := _) rfl (by simp [Tryd.ntmps70]) (fun B hI0 hro => ?_)
 rw [Tryd.ntmps70]
 simp only [enumA]
 refine amGo PT136_ok (h := ?_)
 refine s_nil 3 50 3 1 (by simp [lk]) (by simp) ?_
 simp only [st]
 refine s_loop (J := fun i : {k : Nat // k ≤ 128} => ⟨17, [(1, .ptr 0 0 0), (3, .ref 50 0 (listT s i.1).length), (4, .v (.int .i64 ((i.1 : Int) + 1)))], [(50, ⟨3, 1, (listT s i.1).map fun x => [.v (.int .i64 x)]⟩), (0, ⟨27, 2, [[.v (.int .u64 ((lo s).toNat : Int)), .v (.int .u64 ((hi s).toNat : Int))]]⟩)], [50, 0]⟩) (μ := fun i => 128 - i.1) ⟨0, Nat.zero_le _⟩ ?_ (fun ⟨k, hk⟩ => ?_)
 ·(refine weak_id rfl ?_ ?_ <;> ((try simp only [List.mem_cons, List.not_mem_nil, or_false, forall_eq_or_imp, forall_eq]); (try simp (disch := omega) [i64w, *])))
  all_goals simp [listT]
 have hs := listT_succ s k
 have hl := listT_len s k
 have hcap : ((listT s k).length + 1) * 8 ≤ 140737488355328 := by omega
 have hw2 : IntKind.i64.wrap ((k : Int) + 1 + 1) = (k : Int) + 1 + 1 := i64w (by omega) (by omega)
 have ho2 : okI ((k : Int) + 1) = true := okI_iff.2 ⟨by omega, by omega⟩
 have hkm : (k : Int) + 1 ≤ 128 ↔ k < 128 := by omega
 obtain ⟨v, hv⟩ : ∃ v, (k : Int) + 1 = v := ⟨_, rfl⟩
 have hj : ((k + 1 : Nat) : Int) + 1 = v + 1 := by omega
 rw [hv] at hs hw2 ho2 hkm
 dsimp only
 rw [hv]
 clear hv
 by_cases hkm2 : v ≤ 128
 ·have hlt := hkm.1 hkm2
  clear hkm
  cases h1 : sHas s v
  ·rw [if_neg (by rw [h1]; decide)] at hs
   refine amGo PT136_ok (h := ?_)
   refine k_lp (⟨k + 1, by omega⟩ : {k : Nat // k ≤ 128}) (by dsimp only; omega) ?_
   (refine weak_id rfl ?_ ?_ <;> ((try simp only [List.mem_cons, List.not_mem_nil, or_false, forall_eq_or_imp, forall_eq]); (try simp (disch := omega) [i64w, *])))
   all_goals omega
  ·rw [if_pos h1] at hs
   refine amGo PT136_ok (h := ?_)
   refine k_lp (⟨k + 1, by omega⟩ : {k : Nat // k ≤ 128}) (by dsimp only; omega) ?_
   (refine weak_of (fun q => if q = 50 then 54 else q) ⟨rfl, ?_, ?_, ?_⟩ <;> ((try simp only [List.mem_cons, List.not_mem_nil, or_false, forall_eq_or_imp, forall_eq]); (try simp (disch := omega) [lk, AV.ids, idsL, idsLL, AV.ren, renL, renLL, i64w, *])))
   all_goals omega
 ·obtain rfl : k = 128 := by omega
  refine amGo PT136_ok (h := ?_)
  (refine amRt Tryd.results70 (h := ?_); try simp [*])
@[simp] def g_r3List : List AV → Option (AV × Bool)
 | [a0] => (match toSet a0 with | some s => if (true) = true then some (aInts (listS s), false) else none | none => none)
 | _ => none
theorem e_r3List : EntOk Tryd.prog 70 g_r3List := ent_pure (by kernel_rfl) fun args r fr h => by
 unfold g_r3List at h
 split at h
 ·rename_i a0
  split at h
  ·rename_i s t0
   split at h
   ·rename_i hc
    cases h
    exact ⟨FnPure.cov (r3List_p s) (.cons (toSet_inv t0 ▸ Cov.refl _) .nil), rfl⟩
   ·cases h
  ·cases h
 ·cases h

def l137 : List (FuncId × (List AV → Option (AV × Bool))) :=
 (70, g_r3List) :: l136
theorem l137_ok : ∀ p ∈ l137, EntOk Tryd.prog p.1 p.2 := ent_cons e_r3List (l136_ok)
def PT137 : PTab := tab l137
theorem PT137_ok : PTok Tryd.prog PT137 := tab_ok l137_ok
@[simp] theorem PT137_r3List : PT137 70 = g_r3List := rfl
@[simp] theorem PT137_old (f : FuncId) (h : decide (f ≠ 70) = true) : PT137 f = PT136 f := tab_old (of_decide_eq_true h)
end Go.Proofs.YtecdhmiamlgibaaDoor
/- Ll39: The law's light: what is looked at; no condition. -/
namespace Go.Proofs.YtecdhmiamlgibaaDoor
set_option linter.unusedVariables false
set_option linter.unusedSimpArgs false
set_option linter.unusedSectionVars false
open Go.RowKit
open Wlk
attribute [-simp] List.getD_eq_getElem?_getD
set_option maxRecDepth 100000
def okNd0 (x : Nd) : Bool := okI x.1 && okI x.2.1 && okIL x.2.2
def okN0 (ns : List Nd) : Bool := decide (ns.length ≤ 9223372036854775807) && ns.all okNd0
def lightN (ns : List Nd) : Bool := (List.range ns.length).all (fun i => decide ((ns.getD i nd0).2.2.length ≤ 20)) && decide (ns.length ≤ 80)
theorem okN0_len {ns : List Nd} (h : okN0 ns = true) : ns.length ≤ 9223372036854775807 := by
 unfold okN0 at h
 rw [Bool.and_eq_true, decide_eq_true_eq] at h
 exact h.1
theorem okN0_at {ns : List Nd} (h : okN0 ns = true) {i : Nat} (hi : i < ns.length) : okI (ns.getD i nd0).1 = true ∧ okI (ns.getD i nd0).2.1 = true ∧ okIL (ns.getD i nd0).2.2 = true := by
 unfold okN0 at h
 rw [Bool.and_eq_true] at h
 have := List.all_eq_true.1 h.2 (ns.getD i nd0) (by simp [List.getD, hi])
 unfold okNd0 at this
 simp only [Bool.and_eq_true] at this
 exact ⟨this.1.1, this.1.2, this.2⟩
theorem light39_p (N : Int) (ns : List Nd) (h : okN0 ns = true) : FnPure Tryd.prog 39 [aNet N ns] (.v (.bool (lightN ns))) := by
 have hl := okN0_len h
 unfold aNet aNds lightN
 refine fn_sp TT_ok Tryd.func39 (c := _) rfl (by simp [Tryd.ntmps39]) (fun B hI0 hro => ?_)
 rw [Tryd.ntmps39]
 simp only [enumA]
 refine amGo PT137_ok (h := ?_)
 refine s_loop (J := fun i : {k : Nat // k ≤ ns.length ∧ ∀ j, j < k → decide ((ns.getD j nd0).2.2.length ≤ 20) = true} => ⟨21, [(1, .ptr 0 0 0), (6, .sl 3 (ns.map fun x => [AV.v (.int .i64 x.1), .v (.int .i64 x.2.1), aInts x.2.2])), (7, .v (.int .i64 (ns.length : Int))), (8, .v (.int .i64 (i.1 : Int)))], [(0, ⟨24, 2, [[.v (.int .i64 N), .sl 3 (ns.map fun x => [AV.v (.int .i64 x.1), .v (.int .i64 x.2.1), aInts x.2.2])]]⟩)], [0]⟩) (μ := fun i => ns.length - i.1) ⟨0, Nat.zero_le _, fun j hj => by omega⟩ ?_ (fun ⟨k, hk, he⟩ => ?_)
 ·(refine weak_id rfl ?_ ?_ <;> ((try simp only [List.mem_cons, List.not_mem_nil, or_false, forall_eq_or_imp, forall_eq]); (try simp (disch := omega) [i64w, *])))
 refine amGo PT137_ok (h := ?_)
 (focus ((with_reducible refine sp_cond (b := ?_) ?_ (fun hc => ?_) (fun hc => ?_)); rotate_left; (focus (first | rfl | (simp [lk, AS.ev]; rfl))); all_goals (try simp at hc)))
 ·have hkk := hc
  clear hc
  obtain ⟨_, _, o3⟩ := okN0_at h hkk
  have o4 := okIL_len o3
  by_cases h1 : (ns.getD k nd0).2.2.length ≤ 20
  ·have h1' : ¬ (20 : Int) < ((ns.getD k nd0).2.2.length : Int) := by omega
   refine amGo PT137_ok (h := ?_)
   refine k_lp (⟨k + 1, by omega, fun j hj => ?_⟩ : {k : Nat // k ≤ ns.length ∧ ∀ j, j < k → decide ((ns.getD j nd0).2.2.length ≤ 20) = true}) (by dsimp only; omega) ?_
   ·by_cases e : j < k
    ·exact he j e
    ·obtain rfl : j = k := by omega
     exact decide_eq_true h1
   ·(refine weak_id rfl ?_ ?_ <;> ((try simp only [List.mem_cons, List.not_mem_nil, or_false, forall_eq_or_imp, forall_eq]); (try simp (disch := omega) [i64w, *])))
  ·have h1' : (20 : Int) < ((ns.getD k nd0).2.2.length : Int) := by omega
   have hv := all_rangeF (f := fun i => decide ((ns.getD i nd0).2.2.length ≤ 20)) hkk (decide_eq_false h1)
   rw [hv, Bool.false_and]
   refine amGo PT137_ok (h := ?_)
   (refine amRt Tryd.results39 (h := ?_); try simp [*])
 ·obtain rfl : k = ns.length := by omega
  rw [all_rangeN (f := fun i => decide ((ns.getD i nd0).2.2.length ≤ 20)) he, Bool.true_and]
  refine amGo PT137_ok (h := ?_)
  (refine amRt Tryd.results39 (h := ?_); try simp [*])
  all_goals omega
theorem okN0_of {ns : List Nd} (h : okNs ns = true) : okN0 ns = true := by
 unfold okN0
 have hl := okNs_len h
 rw [Bool.and_eq_true, decide_eq_true_eq]
 refine ⟨by omega, List.all_eq_true.2 fun x hx => ?_⟩
 obtain ⟨i, hi, rfl⟩ := List.mem_iff_getElem.1 hx
 have := okNs_at h hi
 simp only [List.getD, List.getElem?_eq_getElem hi, Option.getD_some] at this
 unfold okNd0
 simp only [Bool.and_eq_true]
 refine ⟨⟨this.1, this.2.1⟩, okIL_ints this.2.2.1⟩
theorem okNs_of {ns : List Nd} (h : okN0 ns = true) (hl : lightN ns = true) : okNs ns = true := by
 unfold lightN at hl
 rw [Bool.and_eq_true, decide_eq_true_eq] at hl
 unfold okNs
 rw [Bool.and_eq_true, decide_eq_true_eq]
 refine ⟨by omega, List.all_eq_true.2 fun x hx => ?_⟩
 obtain ⟨i, hi, rfl⟩ := List.mem_iff_getElem.1 hx
 obtain ⟨a1, a2, a3⟩ := okN0_at h hi
 have a4 := List.all_eq_true.1 hl.1 i (List.mem_range.2 hi)
 simp only [List.getD, List.getElem?_eq_getElem hi, Option.getD_some, decide_eq_true_eq] at a1 a2 a3 a4
 unfold okNd
 simp only [Bool.and_eq_true, decide_eq_true_eq]
 refine ⟨⟨⟨a1, a2⟩, ?_⟩, a4⟩
 unfold okInts
 rw [Bool.and_eq_true, decide_eq_true_eq]
 exact ⟨(by unfold okIL at a3; rw [Bool.and_eq_true] at a3; exact a3.1), by omega⟩
theorem listS_len (s : BitVec 128) : (listS s).length ≤ 128 := by rw [← listT_eq]; exact listT_len s 128
theorem r3Len_p (s : BitVec 128) : FnPure Tryd.prog 41 [aSet s] (.v (.int .i64 ((listS s).length : Int))) := by
 have hl := listS_len s
 unfold aSet WV
 refine fn_sp TT_ok Tryd.func41 (c := _) rfl (by simp [Tryd.ntmps41]) (fun B hI0 hro => ?_)
 rw [Tryd.ntmps41]
 simp only [enumA]
 refine amGo PT137_ok (h := ?_)
 (refine amRt Tryd.results41 (h := ?_); try simp [*])
@[simp] def g_r3Len : List AV → Option (AV × Bool)
 | [a0] => (match toSet a0 with | some s => if (true) = true then some (.v (.int .i64 ((listS s).length : Int)), false) else none | none => none)
 | _ => none
theorem e_r3Len : EntOk Tryd.prog 41 g_r3Len := ent_pure (by kernel_rfl) fun args r fr h => by
 unfold g_r3Len at h
 split at h
 ·rename_i a0
  split at h
  ·rename_i s t0
   split at h
   ·rename_i hc
    cases h
    exact ⟨FnPure.cov (r3Len_p s) (.cons (toSet_inv t0 ▸ Cov.refl _) .nil), rfl⟩
   ·cases h
  ·cases h
 ·cases h

@[simp] def g_light39 : List AV → Option (AV × Bool)
 | [.agg [.v (.int .i64 N), a0]] => (match toNds a0 with | some ns => if (okI N && okN0 ns) = true then some (.v (.bool (lightN ns)), false) else none | none => none)
 | _ => none
theorem e_light39 : EntOk Tryd.prog 39 g_light39 := ent_pure (by kernel_rfl) fun args r fr h => by
 unfold g_light39 at h
 split at h
 ·rename_i N a0
  split at h
  ·rename_i ns t0
   split at h
   ·rename_i hc
    simp only [Bool.and_eq_true] at hc
    obtain ⟨n0, o0⟩ := hc
    cases h
    exact ⟨FnPure.cov (light39_p N ns o0) (.cons (cov_th _ (cov_nds t0)) .nil), rfl⟩
   ·cases h
  ·cases h
 ·cases h

def l138 : List (FuncId × (List AV → Option (AV × Bool))) :=
 (41, g_r3Len) :: (39, g_light39) :: l137
theorem l138_ok : ∀ p ∈ l138, EntOk Tryd.prog p.1 p.2 := ent_cons e_r3Len (ent_cons e_light39 (l137_ok))
def PT138 : PTab := tab l138
theorem PT138_ok : PTok Tryd.prog PT138 := tab_ok l138_ok
@[simp] theorem PT138_r3Len : PT138 41 = g_r3Len := rfl
@[simp] theorem PT138_light39 : PT138 39 = g_light39 := rfl
@[simp] theorem PT138_old (f : FuncId) (h : decide (f ≠ 41 ∧ f ≠ 39) = true) : PT138 f = PT137 f := (fun h => Eq.trans (tab_old h.1) (tab_old h.2)) (of_decide_eq_true h)
end Go.Proofs.YtecdhmiamlgibaaDoor
/- Vr39: The reference's variables of a net; no condition. -/
namespace Go.Proofs.YtecdhmiamlgibaaDoor
set_option linter.unusedVariables false
set_option linter.unusedSimpArgs false
set_option linter.unusedSectionVars false
open Go.RowKit
open Wlk
attribute [-simp] List.getD_eq_getElem?_getD
set_option maxRecDepth 100000
theorem gmemI {xs : List Int} {j : Nat} (hj : j < xs.length) : xs.getD j 0 ∈ xs := by
 have : xs.getD j 0 = xs[j] := by simp [List.getD, hj]
 rw [this]; exact List.getElem_mem hj
theorem words0 : lo 0#128 = 0#64 ∧ hi 0#128 = 0#64 := ⟨by decide, by decide⟩
theorem s_cutK {P : Program} {B : Base} {x y : Code} {σ : AS} {Q : Exit → AS → Prop} (S : AS) (h : SP P B x σ (fun e τ => e = .normal ∧ ∀ c Q', SP P B c S Q' → SP P B c τ Q')) (k : SP P B y S Q) : SP P B x σ (Kseq P B y Q) :=
 sp_mono h fun e τ h => by obtain ⟨rfl, h⟩ := h; exact k_seq (h y Q k)
theorem bit_lo {v : Int} (h1 : 1 ≤ v) (h2 : v ≤ 64) : lo (sBit v) = BitVec.twoPow 64 (v - 1).toNat ∧ hi (sBit v) = 0#64 := by
 obtain ⟨a, b⟩ := lo_with 0#128 v h1 h2
 rw [sWith, BitVec.zero_or] at a b
 rw [a, b, words0.1, words0.2, BitVec.zero_or]; exact ⟨rfl, rfl⟩
theorem bit_hi2 {v : Int} (h1 : 65 ≤ v) (h2 : v ≤ 128) : lo (sBit v) = 0#64 ∧ hi (sBit v) = BitVec.twoPow 64 (v - 65).toNat := by
 obtain ⟨a, b⟩ := hi_with 0#128 v h1 h2
 rw [sWith, BitVec.zero_or] at a b
 rw [a, b, words0.1, words0.2, BitVec.zero_or]; exact ⟨rfl, rfl⟩
theorem sWith_zero (v : Int) : sWith 0#128 v = sBit v := by unfold sWith; rw [BitVec.zero_or]
theorem sBit_zero : sBit 0 = 0#128 := by unfold sBit; rw [if_neg (by omega)]
def varsA (N : Int) (ns : List Nd) : AV := if validN N ns = true then aSets (varsL ns) else .v (.slice none 0 0)
theorem varsL_lenT (ns : List Nd) {k : Nat} (hk : k ≤ ns.length) : (varsL (ns.take k)).length = k := scanN_lenT nodeS ns k hk
theorem varsL_take {ns : List Nd} {k : Nat} (hk : k < ns.length) : varsL (ns.take (k + 1)) = varsL (ns.take k) ++ [accV (ns.getD k nd0) (varsL (ns.take k)) (ns.getD k nd0).2.2.length] := by
 unfold varsL
 rw [scanN_take nodeS hk, accV_all]
theorem word_or (x y : BitVec 64) : IntKind.u64.wrap (((x.toNat % 2 ^ IntKind.u64.bits ||| y.toNat % 2 ^ IntKind.u64.bits : Nat)) : Int) = ((x ||| y).toNat : Int) := by
 rw [bits64, Nat.mod_eq_of_lt x.isLt, Nat.mod_eq_of_lt y.isLt, ← BitVec.toNat_or]
 exact u64w (by omega) (by have := (x ||| y).isLt; omega)
theorem r20Vars_p (N : Int) (ns : List Nd) (hN : okI N = true) (h : okNs ns = true) : FnPure Tryd.prog 71 [aNet N ns] (varsA N ns) := by
 have hl := okNs_len h
 obtain ⟨z1, z2⟩ := words0
 unfold aNet aNds varsA
 cases hv : validN N ns
 ·rw [if_neg (by decide)]
  refine fn_sp TT_ok Tryd.func71 (c := _) rfl (by simp [Tryd.ntmps71]) (fun B hI0 hro => ?_)
  rw [Tryd.ntmps71]
  simp only [enumA]
  refine amGo PT138_ok (h := ?_)
  (refine amRt Tryd.results71 (h := ?_); try simp [*])
 rw [if_pos rfl]
 unfold aSets
 refine fn_sp TT_ok Tryd.func71 (c := _) rfl (by simp [Tryd.ntmps71]) (fun B hI0 hro => ?_)
 rw [Tryd.ntmps71]
 simp only [enumA]
 refine amGo PT138_ok (h := ?_)
 refine s_nil 3 50 27 2 (by simp [lk]) (by simp) ?_
 simp only [st]
 refine s_loop (J := fun i : {k : Nat // k ≤ ns.length} => ⟨77, [(1, .ptr 0 0 0), (3, .ref 50 0 (varsL (ns.take i.1)).length), (4, .v (.int .i64 (i.1 : Int)))], [(50, ⟨27, 2, (varsL (ns.take i.1)).map fun s => [AV.v (.int .u64 ((lo s).toNat : Int)), .v (.int .u64 ((hi s).toNat : Int))]⟩), (0, ⟨24, 2, [[.v (.int .i64 N), .sl 3 (ns.map fun x => [AV.v (.int .i64 x.1), .v (.int .i64 x.2.1), aInts x.2.2])]]⟩)], [50, 0]⟩) (μ := fun i => ns.length - i.1) ⟨0, Nat.zero_le _⟩ ?_ (fun ⟨k, hk⟩ => ?_)
 ·have h0 : varsL [] = [] := rfl
  (refine weak_id rfl ?_ ?_ <;> ((try simp only [List.mem_cons, List.not_mem_nil, or_false, forall_eq_or_imp, forall_eq]); (try simp (disch := omega) [i64w, *])))
 dsimp only
 have hO := varsL_lenT ns hk
 have htk := varsL_take (ns := ns) (k := k)
 generalize hgo : varsL (ns.take k) = O at hO htk ⊢
 refine amGo PT138_ok (h := ?_)
 (focus ((with_reducible refine sp_cond (b := ?_) ?_ (fun hc => ?_) (fun hc => ?_)); rotate_left; (focus (first | rfl | (simp [lk, AS.ev]; rfl))); all_goals (try simp at hc)))
 ·have hkk := hc
  clear hc
  replace htk := htk hkk
  have hfm := valid_form hv hkk
  obtain ⟨o1, o2, o3, o5⟩ := okNs_at h hkk
  have o6 := okInts_len o3
  have hacc : ∀ j, j < (ns.getD k nd0).2.2.length → _ := fun j hj => accV_succ (ns.getD k nd0) O hj
  have hin : ∀ j, j < (ns.getD k nd0).2.2.length → ∃ m : Nat, (ns.getD k nd0).2.2.getD j 0 = (m : Int) ∧ m < k := fun j hj => by
   have := form_in hfm (gmemI hj)
   exact ⟨((ns.getD k nd0).2.2.getD j 0).toNat, by omega, by omega⟩
  have hacc0 : accV (ns.getD k nd0) O 0 = sBit (litVar (ns.getD k nd0).2.1) := rfl
  obtain ⟨v1, v2⟩ := litVar_range (ns.getD k nd0).2.1
  generalize hvv : litVar (ns.getD k nd0).2.1 = v at hacc0 v1 v2
  have hov : okI v = true := okI_iff.2 ⟨by omega, by omega⟩
  refine amStr (h := ?_)
  refine amReg PT138_ok (h := ?_)
  refine amStr (h := ?_)
  refine amReg PT138_ok (h := ?_)
  refine amStr (h := ?_)
  refine amReg PT138_ok (h := ?_)
  refine k_seq ?_
  refine s_cutK ⟨77, [(1, .ptr 0 0 0), (3, .ref 50 0 O.length), (4, .v (.int .i64 (k : Int))), (5, .ptr 51 0 0)], [(51, ⟨27, 2, [[.v (.int .u64 ((lo (sBit v)).toNat : Int)), .v (.int .u64 ((hi (sBit v)).toNat : Int))]]⟩), (50, ⟨27, 2, O.map fun s => [AV.v (.int .u64 ((lo s).toNat : Int)), .v (.int .u64 ((hi s).toNat : Int))]⟩), (0, ⟨24, 2, [[.v (.int .i64 N), .sl 3 (ns.map fun x => [AV.v (.int .i64 x.1), .v (.int .i64 x.2.1), aInts x.2.2])]]⟩)], [51, 50, 0]⟩ ?_ ?_
  ·by_cases v0 : v = 0
   ·subst v0
    rw [sBit_zero, z1, z2]
    refine amStr (h := ?_)
    refine ⟨rfl, fun c Q' k => ?_⟩
    refine s_weak _ ?_ k
    (refine weak_id rfl ?_ ?_ <;> ((try simp only [List.mem_cons, List.not_mem_nil, or_false, forall_eq_or_imp, forall_eq]); (try simp (disch := omega) [i64w, *])))
   have v3 : 0 < v := by omega
   have w1 : IntKind.i64.wrap (v - 1) = v - 1 := i64w (by omega) (by omega)
   clear hacc hacc0 hin htk
   by_cases hlo : v ≤ 64
   ·obtain ⟨q1, q2⟩ := quo64_lo (by omega : 1 ≤ v) hlo
    obtain ⟨g1, g2⟩ := shl_lo (by omega : 1 ≤ v) hlo
    obtain ⟨l1, l2⟩ := bit_lo (by omega : 1 ≤ v) hlo
    rw [l1, l2]
    generalize BitVec.twoPow 64 (v - 1).toNat = bt at g2 ⊢
    clear l1 l2
    have f3 : ¬ (v - 1 < 0) := by omega
    have w2 : IntKind.u64.wrap (v - 1) = v - 1 := u64w (by omega) (by omega)
    refine amGo PT138_ok (h := ?_)
    refine ⟨rfl, fun c Q' k => ?_⟩
    refine s_weak _ ?_ k
    (refine weak_id rfl ?_ ?_ <;> ((try simp only [List.mem_cons, List.not_mem_nil, or_false, forall_eq_or_imp, forall_eq]); (try simp (disch := omega) [i64w, *])))
   ·obtain ⟨q1, q2⟩ := quo64_hi (by omega : 65 ≤ v) v2
    obtain ⟨g1, g2⟩ := shl_hi (by omega : 65 ≤ v) v2
    obtain ⟨l1, l2⟩ := bit_hi2 (by omega : 65 ≤ v) v2
    rw [l1, l2]
    generalize BitVec.twoPow 64 (v - 65).toNat = bt at g2 ⊢
    generalize hq : (v - 65).toNat = q at g1 g2
    clear l1 l2
    have f3 : ¬ (v - 65 < 0) := by omega
    have w2 : IntKind.u64.wrap (v - 65) = v - 65 := u64w (by omega) (by omega)
    refine amGo PT138_ok (h := ?_)
    refine ⟨rfl, fun c Q' k => ?_⟩
    refine s_weak _ ?_ k
    (refine weak_id rfl ?_ ?_ <;> ((try simp only [List.mem_cons, List.not_mem_nil, or_false, forall_eq_or_imp, forall_eq]); (try simp (disch := omega) [i64w, *])))
  clear hvv
  refine amStr (h := ?_)
  refine amReg PT138_ok (h := ?_)
  refine amStr (h := ?_)
  refine s_loop (J := fun i : {j : Nat // j ≤ (ns.getD k nd0).2.2.length} => ⟨77, [(1, .ptr 0 0 0), (3, .ref 50 0 O.length), (4, .v (.int .i64 (k : Int))), (5, .ptr 51 0 0), (7, .v (.int .i64 (i.1 : Int)))], [(51, ⟨27, 2, [[.v (.int .u64 ((lo (accV (ns.getD k nd0) O i.1)).toNat : Int)), .v (.int .u64 ((hi (accV (ns.getD k nd0) O i.1)).toNat : Int))]]⟩), (50, ⟨27, 2, O.map fun s => [AV.v (.int .u64 ((lo s).toNat : Int)), .v (.int .u64 ((hi s).toNat : Int))]⟩), (0, ⟨24, 2, [[.v (.int .i64 N), .sl 3 (ns.map fun x => [AV.v (.int .i64 x.1), .v (.int .i64 x.2.1), aInts x.2.2])]]⟩)], [51, 50, 0]⟩) (μ := fun i => (ns.getD k nd0).2.2.length - i.1) ⟨0, Nat.zero_le _⟩ ?_ (fun ⟨j, hj⟩ => ?_)
  ·(refine weak_id rfl ?_ ?_ <;> ((try simp only [List.mem_cons, List.not_mem_nil, or_false, forall_eq_or_imp, forall_eq]); (try simp (disch := omega) [i64w, *])))
  dsimp only
  replace hacc := hacc j
  replace hin := hin j
  generalize hA : accV (ns.getD k nd0) O j = A at hacc ⊢
  clear hacc0
  refine amStr (h := ?_)
  refine amReg PT138_ok (h := ?_)
  refine amStr (h := ?_)
  (focus ((with_reducible refine sp_cond (b := ?_) ?_ (fun hc => ?_) (fun hc => ?_)); rotate_left; (focus (first | rfl | (simp [lk, AS.ev]; rfl))); all_goals (try simp at hc)))
  ·have hjj := hc
   clear hc
   replace hacc := hacc hjj
   obtain ⟨m, hm1, hm2⟩ := hin hjj
   rw [hm1, Int.toNat_natCast] at hacc
   have hmO : m < O.length := by omega
   obtain ⟨_, _, e1, e2, _⟩ := lo_op A (O.getD m 0#128)
   clear hin hfm
   refine amGo PT138_ok (h := ?_)
   refine k_lp (⟨j + 1, by omega⟩ : {j : Nat // j ≤ (ns.getD k nd0).2.2.length}) (by first | omega | (dsimp only; omega)) ?_
   (refine weak_id rfl ?_ ?_ <;> ((try simp only [List.mem_cons, List.not_mem_nil, or_false, forall_eq_or_imp, forall_eq]); (try simp (disch := omega) [i64w, *])))
  ·obtain rfl : j = (ns.getD k nd0).2.2.length := by omega
   rw [hA] at htk
   clear hacc hin
   have hcap : (k + 1) * 16 ≤ 140737488355328 := by omega
   refine amGo PT138_ok (h := ?_)
   refine k_lp (⟨k + 1, by omega⟩ : {k : Nat // k ≤ ns.length}) (by first | omega | (dsimp only; omega)) ?_
   (refine weak_of (fun q => if q = 50 then 55 else q) ⟨rfl, ?_, ?_, ?_⟩ <;> ((try simp only [List.mem_cons, List.not_mem_nil, or_false, forall_eq_or_imp, forall_eq]); (try simp (disch := omega) [lk, AV.ids, idsL, idsLL, AV.ren, renL, renLL, i64w, *])))
 ·obtain rfl : k = ns.length := by omega
  rw [List.take_length] at hgo
  rw [hgo]
  clear htk
  refine amGo PT138_ok (h := ?_)
  (refine amRt Tryd.results71 (h := ?_); try simp [*])
  rw [← hO, take_map_len]
  exact ⟨d_ids_aSets O, rfl⟩
@[simp] def g_r20Vars : List AV → Option (AV × Bool)
 | [.agg [.v (.int .i64 N), a0]] => (match toNds a0 with | some ns => if (okI N && okNs ns) = true then some (varsA N ns, false) else none | none => none)
 | _ => none
theorem e_r20Vars : EntOk Tryd.prog 71 g_r20Vars := ent_pure (by kernel_rfl) fun args r fr h => by
 unfold g_r20Vars at h
 split at h
 ·rename_i N a0
  split at h
  ·rename_i ns t0
   split at h
   ·rename_i hc
    simp only [Bool.and_eq_true] at hc
    obtain ⟨m0, o0⟩ := hc
    cases h
    exact ⟨FnPure.cov (r20Vars_p N ns m0 o0) (.cons (cov_th _ (cov_nds t0)) .nil), rfl⟩
   ·cases h
  ·cases h
 ·cases h

def l139 : List (FuncId × (List AV → Option (AV × Bool))) :=
 (71, g_r20Vars) :: l138
theorem l139_ok : ∀ p ∈ l139, EntOk Tryd.prog p.1 p.2 := ent_cons e_r20Vars (l138_ok)
def PT139 : PTab := tab l139
theorem PT139_ok : PTok Tryd.prog PT139 := tab_ok l139_ok
@[simp] theorem PT139_r20Vars : PT139 71 = g_r20Vars := rfl
@[simp] theorem PT139_old (f : FuncId) (h : decide (f ≠ 71) = true) : PT139 f = PT138 f := tab_old (of_decide_eq_true h)
end Go.Proofs.YtecdhmiamlgibaaDoor
/- Mt39: The variables that matter; which nets are looked at; no condition. -/
namespace Go.Proofs.YtecdhmiamlgibaaDoor
set_option linter.unusedVariables false
set_option linter.unusedSimpArgs false
set_option linter.unusedSectionVars false
open Go.RowKit
open Wlk
attribute [-simp] List.getD_eq_getElem?_getD
set_option maxRecDepth 100000
theorem r39Mat_p (N : Int) (ns : List Nd) (hN : okI N = true) (h : okNs ns = true) (hv : validN N ns = true) : FnPure Tryd.prog 42 [aNet N ns] (aSet (matS ns)) := by
 have hl := okNs_len h
 have hp := valid_len hv
 obtain ⟨z1, z2⟩ := words0
 have hva : varsA N ns = .sl 2 ((varsL ns).map fun s => [AV.v (.int .u64 ((lo s).toNat : Int)), .v (.int .u64 ((hi s).toNat : Int))]) := if_pos hv
 have hO : (varsL ns).length = ns.length := scanN_len nodeS ns
 unfold aNet aNds aSet WV matS
 generalize hgo : varsL ns = O at hva hO ⊢
 have hlm : (O.map fun s => [AV.v (.int .u64 ((lo s).toNat : Int)), .v (.int .u64 ((hi s).toNat : Int))]).length = O.length := List.length_map _
 obtain ⟨m, hm⟩ : ∃ m, ns.length = m + 1 := ⟨ns.length - 1, by omega⟩
 rw [hm] at hO ⊢
 have hw : IntKind.i64.wrap (m : Int) = (m : Int) := i64w (by omega) (by omega)
 have hmO : m < O.length := by omega
 have hmm : (m : Int) < (m : Int) + 1 := by omega
 refine fn_sp TT_ok Tryd.func42 (c := _) rfl (by simp [Tryd.ntmps42]) (fun B hI0 hro => ?_)
 rw [Tryd.ntmps42]
 simp only [enumA]
 refine amGo PT139_ok (h := ?_)
 (refine amRt Tryd.results42 (h := ?_); try simp [*])
@[simp] def g_r39Mat : List AV → Option (AV × Bool)
 | [.agg [.v (.int .i64 N), a0]] => (match toNds a0 with | some ns => if (okI N && okNs ns && validN N ns) = true then some (aSet (matS ns), false) else none | none => none)
 | _ => none
theorem e_r39Mat : EntOk Tryd.prog 42 g_r39Mat := ent_pure (by kernel_rfl) fun args r fr h => by
 unfold g_r39Mat at h
 split at h
 ·rename_i N a0
  split at h
  ·rename_i ns t0
   split at h
   ·rename_i hc
    simp only [Bool.and_eq_true] at hc
    obtain ⟨⟨m0, o0⟩, hk⟩ := hc
    cases h
    exact ⟨FnPure.cov (r39Mat_p N ns m0 o0 hk) (.cons (cov_th _ (cov_nds t0)) .nil), rfl⟩
   ·cases h
  ·cases h
 ·cases h

def l140 : List (FuncId × (List AV → Option (AV × Bool))) :=
 (42, g_r39Mat) :: l139
theorem l140_ok : ∀ p ∈ l140, EntOk Tryd.prog p.1 p.2 := ent_cons e_r39Mat (l139_ok)
def PT140 : PTab := tab l140
theorem PT140_ok : PTok Tryd.prog PT140 := tab_ok l140_ok
@[simp] theorem PT140_r39Mat : PT140 42 = g_r39Mat := rfl
@[simp] theorem PT140_old (f : FuncId) (h : decide (f ≠ 42) = true) : PT140 f = PT139 f := tab_old (of_decide_eq_true h)
end Go.Proofs.YtecdhmiamlgibaaDoor
/- Fe39: Which nets are looked at; no condition. -/
namespace Go.Proofs.YtecdhmiamlgibaaDoor
set_option linter.unusedVariables false
set_option linter.unusedSimpArgs false
set_option linter.unusedSectionVars false
open Go.RowKit
open Wlk
attribute [-simp] List.getD_eq_getElem?_getD
set_option maxRecDepth 100000
def matL (ns : List Nd) : List Int := listS (matS ns)
def fewN (N : Int) (ns : List Nd) (most : Int) : Bool := lightN ns && (!validN N ns || decide (((matL ns).length : Int) ≤ most) || decide (16 < (matL ns).length))
theorem few39_p (N : Int) (ns : List Nd) (most : Int) (hN : okI N = true) (h0 : okN0 ns = true) (hm : okI most = true) : FnPure Tryd.prog 12 [aNet N ns, .v (.int .i64 most)] (.v (.bool (fewN N ns most))) := by
 have hl := okN0_len h0
 unfold aNet aNds fewN
 cases h1 : lightN ns
 ·rw [Bool.false_and]
  refine fn_sp TT_ok Tryd.func12 (c := _) rfl (by simp [Tryd.ntmps12]) (fun B hI0 hro => ?_)
  rw [Tryd.ntmps12]
  simp only [enumA]
  refine amGo PT140_ok (h := ?_)
  (refine amRt Tryd.results12 (h := ?_); try simp [*])
 rw [Bool.true_and]
 have h2 := okNs_of h0 h1
 cases h3 : validN N ns
 ·refine fn_sp TT_ok Tryd.func12 (c := _) rfl (by simp [Tryd.ntmps12]) (fun B hI0 hro => ?_)
  rw [Tryd.ntmps12]
  simp only [enumA]
  refine amGo PT140_ok (h := ?_)
  (refine amRt Tryd.results12 (h := ?_); try simp [*])
 have h4 := listS_len (matS ns)
 unfold matL
 generalize hk : (listS (matS ns)).length = k at h4
 by_cases h5 : (k : Int) ≤ most
 ·refine fn_sp TT_ok Tryd.func12 (c := _) rfl (by simp [Tryd.ntmps12]) (fun B hI0 hro => ?_)
  rw [Tryd.ntmps12]
  simp only [enumA]
  refine amGo PT140_ok (h := ?_)
  (refine amRt Tryd.results12 (h := ?_); try simp [*])
  all_goals simp [h5]
 ·refine fn_sp TT_ok Tryd.func12 (c := _) rfl (by simp [Tryd.ntmps12]) (fun B hI0 hro => ?_)
  rw [Tryd.ntmps12]
  simp only [enumA]
  refine amGo PT140_ok (h := ?_)
  (refine amRt Tryd.results12 (h := ?_); try simp [*])
  all_goals first | omega | (rw [Bool.eq_iff_iff]; simp [h5]; done) | (rw [Bool.eq_iff_iff]; simp [h5]; omega)
@[simp] def g_few39 : List AV → Option (AV × Bool)
 | [.agg [.v (.int .i64 N), a0], .v (.int .i64 most)] => (match toNds a0 with | some ns => if (okI N && okN0 ns && okI most) = true then some (.v (.bool (fewN N ns most)), false) else none | none => none)
 | _ => none
theorem e_few39 : EntOk Tryd.prog 12 g_few39 := ent_pure (by kernel_rfl) fun args r fr h => by
 unfold g_few39 at h
 split at h
 ·rename_i N a0 most
  split at h
  ·rename_i ns t0
   split at h
   ·rename_i hc
    simp only [Bool.and_eq_true] at hc
    obtain ⟨⟨n0, o0⟩, o1⟩ := hc
    cases h
    exact ⟨FnPure.cov (few39_p N ns most n0 o0 o1) (.cons (cov_th _ (cov_nds t0)) (.cons (Cov.refl _) .nil)), rfl⟩
   ·cases h
  ·cases h
 ·cases h

def l141 : List (FuncId × (List AV → Option (AV × Bool))) :=
 (12, g_few39) :: l140
theorem l141_ok : ∀ p ∈ l141, EntOk Tryd.prog p.1 p.2 := ent_cons e_few39 (l140_ok)
def PT141 : PTab := tab l141
theorem PT141_ok : PTok Tryd.prog PT141 := tab_ok l141_ok
@[simp] theorem PT141_few39 : PT141 12 = g_few39 := rfl
@[simp] theorem PT141_old (f : FuncId) (h : decide (f ≠ 12) = true) : PT141 f = PT140 f := tab_old (of_decide_eq_true h)
end Go.Proofs.YtecdhmiamlgibaaDoor
/- Vo39: vars.Of; no condition. -/
namespace Go.Proofs.YtecdhmiamlgibaaDoor
set_option linter.unusedVariables false
set_option linter.unusedSimpArgs false
set_option linter.unusedSectionVars false
open Go.RowKit
open Wlk
attribute [-simp] List.getD_eq_getElem?_getD
set_option maxRecDepth 100000
@[simp ↓ high] theorem d_flat_set (s : BitVec 128) : (aSet s).flat = true := rfl
@[simp ↓ high] theorem d_cells_set (s : BitVec 128) : (aSet s).cells = [.v (.int .u64 ((lo s).toNat : Int)), .v (.int .u64 ((hi s).toNat : Int))] := rfl
@[simp ↓ high] theorem d_scalar_set (s : BitVec 128) : (aSet s).scalar = true := rfl
@[simp ↓ high] theorem d_ids_set (s : BitVec 128) : (aSet s).ids = [] := rfl
def ofL (xs : List Int) : BitVec 128 := xs.foldl sWith 0#128
theorem ofL_take {xs : List Int} {k : Nat} (hk : k < xs.length) : ofL (xs.take (k + 1)) = sWith (ofL (xs.take k)) (xs.getD k 0) := by
 unfold ofL
 rw [List.take_add_one, List.getElem?_eq_getElem hk, List.foldl_append]
 simp [List.getD, hk]
theorem ofL_one (v : Int) : ofL [v] = sBit v := sWith_zero v
theorem vOf_p (xs : List Int) (h : okInts xs = true) : FnPure Tryd.prog 23 [aInts xs] (aSet (ofL xs)) := by
 have hl := okInts_len h
 obtain ⟨z1, z2⟩ := words0
 unfold aSet WV
 refine fn_sp TT_ok Tryd.func23 (c := _) rfl (by simp [Tryd.ntmps23]) (fun B hI0 hro => ?_)
 rw [Tryd.ntmps23]
 simp only [enumA]
 refine amGo PT141_ok (h := ?_)
 refine s_loop (J := fun i : {k : Nat // k ≤ xs.length} => ⟨17, [(2, .ptr 0 0 0), (3, .ptr 1 0 0), (6, aInts xs), (7, .v (.int .i64 (xs.length : Int))), (8, .v (.int .i64 (i.1 : Int)))], [(1, ⟨27, 2, [[.v (.int .u64 ((lo (ofL (xs.take i.1))).toNat : Int)), .v (.int .u64 ((hi (ofL (xs.take i.1))).toNat : Int))]]⟩), (0, ⟨27, 2, [[.v (.int .u64 0), .v (.int .u64 0)]]⟩)], [1, 0]⟩) (μ := fun i => xs.length - i.1) ⟨0, Nat.zero_le _⟩ ?_ (fun ⟨k, hk⟩ => ?_)
 ·have h0 : ofL [] = 0#128 := rfl
  (refine weak_id rfl ?_ ?_ <;> ((try simp only [List.mem_cons, List.not_mem_nil, or_false, forall_eq_or_imp, forall_eq]); (try simp (disch := omega) [i64w, *])))
 refine amGo PT141_ok (h := ?_)
 (focus ((with_reducible refine sp_cond (b := ?_) ?_ (fun hc => ?_) (fun hc => ?_)); rotate_left; (focus (first | rfl | (simp [lk, AS.ev]; rfl))); all_goals (try simp at hc)))
 ·have hkk := hc
  clear hc
  have ho := okI_iff.2 (okInts_at h k)
  have hs := ofL_take hkk
  refine amGo PT141_ok (h := ?_)
  refine k_lp (⟨k + 1, by omega⟩ : {k : Nat // k ≤ xs.length}) (by first | omega | (dsimp only; omega)) ?_
  (refine weak_id rfl ?_ ?_ <;> ((try simp only [List.mem_cons, List.not_mem_nil, or_false, forall_eq_or_imp, forall_eq]); (try simp (disch := omega) [i64w, *])))
 ·obtain rfl : k = xs.length := by omega
  have e : xs.take xs.length = xs := List.take_length
  rw [e]
  refine amGo PT141_ok (h := ?_)
  (refine amRt Tryd.results23 (h := ?_); try simp [*])
@[simp] def g_vOf : List AV → Option (AV × Bool)
 | [a0] => (match toInts a0 with | some xs => if (okInts xs) = true then some (aSet (ofL xs), false) else none | none => none)
 | _ => none
theorem e_vOf : EntOk Tryd.prog 23 g_vOf := ent_pure (by kernel_rfl) fun args r fr h => by
 unfold g_vOf at h
 split at h
 ·rename_i a0
  split at h
  ·rename_i xs t0
   split at h
   ·rename_i hc
    have o0 := hc
    cases h
    exact ⟨FnPure.cov (vOf_p xs o0) (.cons (cov_ints t0) .nil), rfl⟩
   ·cases h
  ·cases h
 ·cases h

def l142 : List (FuncId × (List AV → Option (AV × Bool))) :=
 (23, g_vOf) :: l141
theorem l142_ok : ∀ p ∈ l142, EntOk Tryd.prog p.1 p.2 := ent_cons e_vOf (l141_ok)
def PT142 : PTab := tab l142
theorem PT142_ok : PTok Tryd.prog PT142 := tab_ok l142_ok
@[simp] theorem PT142_vOf : PT142 23 = g_vOf := rfl
@[simp] theorem PT142_old (f : FuncId) (h : decide (f ≠ 23) = true) : PT142 f = PT141 f := tab_old (of_decide_eq_true h)
end Go.Proofs.YtecdhmiamlgibaaDoor
/- Nx39: What is computed node by node, in place (plain); no condition. -/
namespace Go.Proofs.YtecdhmiamlgibaaDoor
set_option linter.unusedVariables false
set_option linter.unusedSimpArgs false
set_option linter.unusedSectionVars false
open Go.RowKit
set_option maxRecDepth 100000
section
variable {α : Type}
theorem getD_set_eq {l : List α} {k : Nat} {a d : α} (h : k < l.length) : (l.set k a).getD k d = a := by simp [List.getD, h]
theorem getD_set_ne {l : List α} {k j : Nat} {a d : α} (h : k ≠ j) : (l.set k a).getD j d = l.getD j d := by simp [List.getD, List.getElem?_set_ne h]
theorem ext_getD {l m : List α} (d : α) (h : l.length = m.length) (he : ∀ i, i < m.length → l.getD i d = m.getD i d) : l = m := by
 apply List.ext_getElem h
 intro i h1 h2
 have := he i h2
 simpa [List.getD, h1, h2] using this
def InOnly (f : Nd → List α → α) (d : α) : Prop := ∀ x out out', (∀ k ∈ x.2.2, out.getD k.toNat d = out'.getD k.toNat d) → f x out = f x out'
theorem scanN_fix {f : Nd → List α → α} {d : α} (hf : InOnly f d) {N : Int} {ns : List Nd} (h : validN N ns = true) {i : Nat} (hi : i < ns.length) : (scanN f ns).getD i d = f (ns.getD i nd0) (scanN f ns) := by
 rw [scanN_get f ns d hi]
 refine hf _ _ _ fun k hk => ?_
 have := form_in (valid_form h hi) hk
 have e := scanN_pre f ns d ns.length i (by omega) (Nat.le_refl _) k.toNat (by omega)
 rw [List.take_length] at e
 exact e.symm
end
theorem foldl_congr' {β : Type} {f g : β → Int → β} : ∀ {xs : List Int} (b : β), (∀ b, ∀ k ∈ xs, f b k = g b k) → xs.foldl f b = xs.foldl g b
 | [], _, _ => rfl
 | x :: r, b, h => by
  rw [List.foldl_cons, List.foldl_cons, h b x (by simp)]
  exact foldl_congr' _ fun b k hk => h b k (by simp [hk])
theorem nodeS_in : InOnly nodeS 0#128 := fun x out out' h => foldl_congr' _ fun b k hk => by rw [h k hk]
theorem nodeV_in (a : BitVec 128) : InOnly (nodeV a) false := fun x out out' h => by
 unfold nodeV
 split
 ·rfl
 ·split
  ·rfl
  ·split
   ·exact all_congr h
   ·split
    ·exact any_congr h
    ·rfl
theorem nodeW_in (of : Int → BitVec 64) : InOnly (nodeW of) 0#64 := fun x out out' h => by
 unfold nodeW
 exact foldl_congr' _ fun b k hk => by rw [h k hk]
theorem sets_set (l : List (BitVec 128)) (e : Nat) (x : BitVec 128) : (l.map fun s => [AV.v (.int .u64 ((lo s).toNat : Int)), .v (.int .u64 ((hi s).toNat : Int))]).set e [.v (.int .u64 ((lo x).toNat : Int)), .v (.int .u64 ((hi x).toNat : Int))] = (l.set e x).map fun s => [AV.v (.int .u64 ((lo s).toNat : Int)), .v (.int .u64 ((hi s).toNat : Int))] := by
 rw [List.map_set]
theorem sets_rep (n : Nat) : (List.replicate n [AV.v (.int .u64 0), .v (.int .u64 0)]) = (List.replicate n 0#128).map fun s => [AV.v (.int .u64 ((lo s).toNat : Int)), .v (.int .u64 ((hi s).toNat : Int))] := by
 rw [List.map_replicate, words0.1, words0.2]; rfl
theorem vars_fix {N : Int} {ns : List Nd} (h : validN N ns = true) {i : Nat} (hi : i < ns.length) : (varsL ns).getD i 0#128 = accV (ns.getD i nd0) (varsL ns) (ns.getD i nd0).2.2.length := by
 rw [accV_all]; exact scanN_fix nodeS_in h hi
end Go.Proofs.YtecdhmiamlgibaaDoor
/- Nv39: node.Vars; no condition. -/
namespace Go.Proofs.YtecdhmiamlgibaaDoor
set_option linter.unusedVariables false
set_option linter.unusedSimpArgs false
set_option linter.unusedSectionVars false
open Go.RowKit
open Wlk
attribute [-simp] List.getD_eq_getElem?_getD
set_option maxRecDepth 100000
set_option maxHeartbeats 4000000 in
theorem nVars_p (N : Int) (ns : List Nd) (hN : okI N = true) (h : okNs ns = true) : FnPure Tryd.prog 91 [aNet N ns] (varsA N ns) := by
 have hl := okNs_len h
 obtain ⟨z1, z2⟩ := words0
 unfold aNet aNds varsA
 cases hv : validN N ns
 ·rw [if_neg (by decide)]
  have he : errN N ns = 1 := by unfold errN; rw [hv]; rfl
  refine fn_sp TT_ok Tryd.func91 (c := _) rfl (by simp [Tryd.ntmps91]) (fun B hI0 hro => ?_)
  rw [Tryd.ntmps91]
  simp only [enumA]
  refine amGo PT142_ok (h := ?_)
  (refine amRt Tryd.results91 (h := ?_); try simp [*])
 rw [if_pos rfl]
 have he : errN N ns = 0 := by unfold errN; rw [hv]; rfl
 unfold aSets
 have hcap : 16 * (ns.length : Int) ≤ 281474976710656 := by omega
 have hcap2 : (ns.length : Int) ≤ 9223372036854775807 := by omega
 refine fn_sp TT_ok Tryd.func91 (c := _) rfl (by simp [Tryd.ntmps91]) (fun B hI0 hro => ?_)
 rw [Tryd.ntmps91]
 simp only [enumA]
 refine amGo PT142_ok (h := ?_)
 have hV : (varsL ns).length = ns.length := scanN_len nodeS ns
 have hfix : ∀ k, k < ns.length → _ := fun k hk => vars_fix hv hk
 obtain ⟨V, hVV⟩ : ∃ V, varsL ns = V := ⟨_, rfl⟩
 rw [hVV] at hV hfix ⊢
 clear hVV
 refine s_loop (J := fun i : {p : Nat × List (BitVec 128) // p.1 ≤ ns.length ∧ p.2.length = ns.length ∧ ∀ j, j < p.1 → p.2.getD j 0#128 = V.getD j 0#128} => ⟨53, [(1, .ptr 0 0 0), (3, .ref 4 0 ns.length), (16, .sl 3 (ns.map fun x => [AV.v (.int .i64 x.1), .v (.int .i64 x.2.1), aInts x.2.2])), (17, .v (.int .i64 (ns.length : Int))), (18, .v (.int .i64 (i.1.1 : Int)))], [(4, ⟨27, 2, i.1.2.map fun s => [AV.v (.int .u64 ((lo s).toNat : Int)), .v (.int .u64 ((hi s).toNat : Int))]⟩), (0, ⟨24, 2, [[.v (.int .i64 N), .sl 3 (ns.map fun x => [AV.v (.int .i64 x.1), .v (.int .i64 x.2.1), aInts x.2.2])]]⟩)], [4, 0]⟩) (μ := fun i => ns.length - i.1.1) ⟨(0, List.replicate ns.length 0#128), Nat.zero_le _, List.length_replicate .., fun j hj => by omega⟩ ?_ (fun ⟨⟨k, LL⟩, hk, hLL, hpre⟩ => ?_)
 ·(refine weak_id rfl ?_ ?_ <;> ((try simp only [List.mem_cons, List.not_mem_nil, or_false, forall_eq_or_imp, forall_eq]); (try simp (disch := omega) [i64w, *])))
 dsimp only at hk hLL hpre
 dsimp only
 refine amStr (h := ?_)
 refine amReg PT142_ok (h := ?_)
 refine amStr (h := ?_)
 (focus ((with_reducible refine sp_cond (b := ?_) ?_ (fun hc => ?_) (fun hc => ?_)); rotate_left; (focus (first | rfl | (simp [lk, AS.ev]; rfl))); all_goals (try simp at hc)))
 ·have hkk := hc
  clear hc
  have hfm := valid_form hv hkk
  obtain ⟨o1, o2, o3, o5⟩ := okNs_at h hkk
  have o6 := okInts_len o3
  have hf := hfix k hkk
  clear hfix
  have hacc : ∀ j, j < (ns.getD k nd0).2.2.length → _ := fun j hj => accV_succ (ns.getD k nd0) V hj
  have hin : ∀ j, j < (ns.getD k nd0).2.2.length → ∃ m : Nat, (ns.getD k nd0).2.2.getD j 0 = (m : Int) ∧ m < k := fun j hj => by
   have := form_in hfm (gmemI hj)
   exact ⟨((ns.getD k nd0).2.2.getD j 0).toNat, by omega, by omega⟩
  have hacc0 : accV (ns.getD k nd0) V 0 = sBit (litVar (ns.getD k nd0).2.1) := rfl
  obtain ⟨v1, v2⟩ := litVar_range (ns.getD k nd0).2.1
  have hov : okI (litVar (ns.getD k nd0).2.1) = true := okI_iff.2 ⟨by omega, by omega⟩
  have hone : toInts (.sl 1 [[.v (.int .i64 (litVar (ns.getD k nd0).2.1))]]) = some [litVar (ns.getD k nd0).2.1] := rfl
  have hok1 : okInts [litVar (ns.getD k nd0).2.1] = true := by simp [okInts, hov]
  have hof := ofL_one (litVar (ns.getD k nd0).2.1)
  refine amStr (h := ?_)
  refine amReg PT142_ok (h := ?_)
  refine amStr (h := ?_)
  refine amReg PT142_ok (h := ?_)
  refine amStr (h := ?_)
  refine amReg PT142_ok (h := ?_)
  refine amStr (h := ?_)
  have hLk : k < LL.length := by omega
  generalize hS : sBit (litVar (ns.getD k nd0).2.1) = S0 at hacc0 ⊢
  refine s_loop (J := fun i : {q : Nat × List (BitVec 128) // q.1 ≤ (ns.getD k nd0).2.2.length ∧ q.2.length = ns.length ∧ (∀ j, j < k → q.2.getD j 0#128 = V.getD j 0#128) ∧ q.2.getD k 0#128 = accV (ns.getD k nd0) V q.1} => ⟨53, [(1, .ptr 0 0 0), (3, .ref 4 0 ns.length), (4, .v (.int .i64 (k : Int))), (16, .sl 3 (ns.map fun x => [AV.v (.int .i64 x.1), .v (.int .i64 x.2.1), aInts x.2.2])), (17, .v (.int .i64 (ns.length : Int))), (18, .v (.int .i64 (k : Int))), (32, aInts (ns.getD k nd0).2.2), (33, .v (.int .i64 ((ns.getD k nd0).2.2.length : Int))), (34, .v (.int .i64 (i.1.1 : Int)))], [(4, ⟨27, 2, i.1.2.map fun s => [AV.v (.int .u64 ((lo s).toNat : Int)), .v (.int .u64 ((hi s).toNat : Int))]⟩), (0, ⟨24, 2, [[.v (.int .i64 N), .sl 3 (ns.map fun x => [AV.v (.int .i64 x.1), .v (.int .i64 x.2.1), aInts x.2.2])]]⟩)], [4, 0]⟩) (μ := fun i => (ns.getD k nd0).2.2.length - i.1.1) ⟨(0, LL.set k S0), Nat.zero_le _, by simp [hLL], fun j hj => by rw [getD_set_ne (by omega)]; exact hpre j hj, by rw [getD_set_eq hLk, hacc0]⟩ ?_ (fun ⟨⟨j, MM⟩, hj, hMM, hpm, hAc⟩ => ?_)
  ·(refine weak_id rfl ?_ ?_ <;> ((try simp only [List.mem_cons, List.not_mem_nil, or_false, forall_eq_or_imp, forall_eq]); (try simp (disch := omega) [i64w, *])))
  clear hLk
  dsimp only at hj hMM hpm hAc
  dsimp only
  replace hacc := hacc j
  replace hin := hin j
  clear hacc0 hS hone hok1 hof hov v1 v2
  refine amStr (h := ?_)
  refine amReg PT142_ok (h := ?_)
  refine amStr (h := ?_)
  (focus ((with_reducible refine sp_cond (b := ?_) ?_ (fun hc => ?_) (fun hc => ?_)); rotate_left; (focus (first | rfl | (simp [lk, AS.ev]; rfl))); all_goals (try simp at hc)))
  ·have hjj := hc
   clear hc
   replace hacc := hacc hjj
   obtain ⟨m, hm1, hm2⟩ := hin hjj
   have hBm := hpm m hm2
   rw [hm1, Int.toNat_natCast, ← hAc, ← hBm] at hacc
   have hMk : k < MM.length := by omega
   have hMm : m < MM.length := by omega
   have hmn : m < ns.length := by omega
   clear hin hfm hf hBm
   refine amStr (h := ?_)
   refine amReg PT142_ok (h := ?_)
   refine amStr (h := ?_)
   refine amDrw PT142_ok (h := ?_)
   refine amStr (h := ?_)
   refine amReg PT142_ok (h := ?_)
   refine k_lp (⟨(j + 1, MM.set k (MM.getD k 0#128 ||| MM.getD m 0#128)), by omega, by simp [hMM], fun j hj => by rw [getD_set_ne (by omega)]; exact hpm j hj, by rw [getD_set_eq hMk, hacc]⟩ : {q : Nat × List (BitVec 128) // q.1 ≤ (ns.getD k nd0).2.2.length ∧ q.2.length = ns.length ∧ (∀ j, j < k → q.2.getD j 0#128 = V.getD j 0#128) ∧ q.2.getD k 0#128 = accV (ns.getD k nd0) V q.1}) (by first | omega | (dsimp only; omega)) ?_
   (refine weak_id rfl ?_ ?_ <;> ((try simp only [List.mem_cons, List.not_mem_nil, or_false, forall_eq_or_imp, forall_eq]); (try simp (disch := omega) [i64w, *])))
  ·obtain rfl : j = (ns.getD k nd0).2.2.length := by omega
   clear hacc hin
   rw [← hf] at hAc
   refine amStr (h := ?_)
   refine amReg PT142_ok (h := ?_)
   refine k_lp (⟨(k + 1, MM), by omega, hMM, fun j hj => ?_⟩ : {p : Nat × List (BitVec 128) // p.1 ≤ ns.length ∧ p.2.length = ns.length ∧ ∀ j, j < p.1 → p.2.getD j 0#128 = V.getD j 0#128}) (by first | omega | (dsimp only; omega)) ?_
   ·by_cases e : j < k
    ·exact hpm j e
    ·obtain rfl : j = k := by omega
     exact hAc
   ·(refine weak_id rfl ?_ ?_ <;> ((try simp only [List.mem_cons, List.not_mem_nil, or_false, forall_eq_or_imp, forall_eq]); (try simp (disch := omega) [i64w, *])))
 ·obtain rfl : k = ns.length := by omega
  have : LL = V := ext_getD 0#128 (by omega) (fun i hi => hpre i (by omega))
  subst this
  refine amGo PT142_ok (h := ?_)
  (refine amRt Tryd.results91 (h := ?_); try simp [*])
  rw [← hLL, take_map_len]
  exact ⟨d_ids_aSets LL, rfl⟩
@[simp] def g_nVars : List AV → Option (AV × Bool)
 | [.agg [.v (.int .i64 N), a0]] => (match toNds a0 with | some ns => if (okI N && okNs ns) = true then some (varsA N ns, false) else none | none => none)
 | _ => none
theorem e_nVars : EntOk Tryd.prog 91 g_nVars := ent_pure (by kernel_rfl) fun args r fr h => by
 unfold g_nVars at h
 split at h
 ·rename_i N a0
  split at h
  ·rename_i ns t0
   split at h
   ·rename_i hc
    simp only [Bool.and_eq_true] at hc
    obtain ⟨m0, o0⟩ := hc
    cases h
    exact ⟨FnPure.cov (nVars_p N ns m0 o0) (.cons (cov_th _ (cov_nds t0)) .nil), rfl⟩
   ·cases h
  ·cases h
 ·cases h

def l143 : List (FuncId × (List AV → Option (AV × Bool))) :=
 (91, g_nVars) :: l142
theorem l143_ok : ∀ p ∈ l143, EntOk Tryd.prog p.1 p.2 := ent_cons e_nVars (l142_ok)
def PT143 : PTab := tab l143
theorem PT143_ok : PTok Tryd.prog PT143 := tab_ok l143_ok
@[simp] theorem PT143_nVars : PT143 91 = g_nVars := rfl
@[simp] theorem PT143_old (f : FuncId) (h : decide (f ≠ 91) = true) : PT143 f = PT142 f := tab_old (of_decide_eq_true h)
end Go.Proofs.YtecdhmiamlgibaaDoor
