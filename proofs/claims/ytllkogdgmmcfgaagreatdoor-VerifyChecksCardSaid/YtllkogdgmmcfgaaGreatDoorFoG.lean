/- Nets as arguments; no condition. -/
import Derived.Test.YtllkogdgmmcfgaaGreatDoorNgG
import Derived.Test.YtllkogdgmmcfgaaGreatDoorCvG
import Derived.Test.YtllkogdgmmcfgaaGreatDoorWl
import Derived.Test.YtllkogdgmmcfgaaGreatDoorVsG
/- Na39: Nets as arguments; no condition. -/
namespace Go.Proofs.YtllkogdgmmcfgaaGreatDoor
set_option linter.unusedVariables false
set_option linter.unusedSimpArgs false
set_option linter.unusedSectionVars false
open Go.RowKit
set_option maxRecDepth 100000
def ndsOf : List (List AV) → Option (List Nd)
 | [] => some []
 | [.v (.int .i64 k), .v (.int .i64 l), c] :: r => match toInts c, ndsOf r with
  | some x, some y => some ((k, l, x) :: y)
  | _, _ => none
 | _ :: _ => none
def toNds : AV → Option (List Nd)
 | .sl 3 ys => ndsOf ys
 | .v (.slice none 0 0) => some []
 | _ => none
@[simp] theorem ndsOf_map : ∀ l : List Nd, ndsOf (l.map fun x => [AV.v (.int .i64 x.1), .v (.int .i64 x.2.1), aInts x.2.2]) = some l
 | [] => rfl
 | (k, y, x) :: l => by simp [ndsOf, ndsOf_map l]
@[simp] theorem toNds_sl (l : List Nd) : toNds (.sl 3 (l.map fun x => [AV.v (.int .i64 x.1), .v (.int .i64 x.2.1), aInts x.2.2])) = some l := ndsOf_map l
@[simp] theorem toNds_aNds (l : List Nd) : toNds (aNds l) = some l := ndsOf_map l
@[simp] theorem toNds_nil : toNds (.v (.slice none 0 0)) = some [] := rfl
@[simp ↓ high] theorem d_ids_aNds (l : List Nd) : idsLL (l.map fun x => [AV.v (.int .i64 x.1), .v (.int .i64 x.2.1), aInts x.2.2]) = [] := by
 induction l with
 | nil => rfl
 | cons p r ih => simp [idsLL, idsL, AV.ids, ih]
@[simp ↓ high] theorem d_ren_aNds (ρ : Nat → Nat) (l : List Nd) : renLL ρ (l.map fun x => [AV.v (.int .i64 x.1), .v (.int .i64 x.2.1), aInts x.2.2]) = l.map fun x => [AV.v (.int .i64 x.1), .v (.int .i64 x.2.1), aInts x.2.2] := renLL_pure ρ _ (d_ids_aNds l)
@[simp] theorem nds_get {l : List Nd} {k : Nat} (h : k < l.length) : (l.map fun x => [AV.v (.int .i64 x.1), .v (.int .i64 x.2.1), aInts x.2.2]).getD k [] = [.v (.int .i64 (l.getD k nd0).1), .v (.int .i64 (l.getD k nd0).2.1), aInts (l.getD k nd0).2.2] := by
 simp [List.getD, h]
theorem ndsOf_rows : ∀ {ys : List (List AV)} {l : List Nd}, ndsOf ys = some l → ys.length = l.length ∧ ∀ i, i < l.length → ∃ c, ys.getD i [] = [.v (.int .i64 (l.getD i nd0).1), .v (.int .i64 (l.getD i nd0).2.1), c] ∧ toInts c = some (l.getD i nd0).2.2
 | [], l, h => by
  simp only [ndsOf, Option.some.injEq] at h
  subst h
  exact ⟨rfl, fun i hi => absurd hi (by simp)⟩
 | a :: r, l, h => by
  unfold ndsOf at h
  split at h
  ·rename_i he; cases he
  ·rename_i k y c r2 he
   cases he
   split at h
   ·rename_i x l2 h1 h3
    cases h
    obtain ⟨g1, g2⟩ := ndsOf_rows h3
    refine ⟨by simp [g1], fun i hi => ?_⟩
    cases i with
    | zero => exact ⟨c, rfl, h1⟩
    | succ i =>
     have := g2 i (by simpa using hi)
     simpa using this
   ·cases h
  ·cases h
theorem cov_nds {a : AV} {l : List Nd} (h : toNds a = some l) : Cov a (aNds l) := fun S v hv => by
 unfold toNds at h
 split at h
 ·rename_i ys
  obtain ⟨g1, g2⟩ := ndsOf_rows h
  cases hv with
  | sl _ _ b n c us hn hc hm h0 hz ha h3 h4 =>
   refine .sl 3 _ b n c us (by rw [hn, List.length_map, g1]) hc hm h0 (fun i hi => ?_) (fun hp => ?_) (fun i j hi hj => ?_) (fun i j hi hj => ?_)
   ·rw [List.length_map] at hi; rw [nds_get hi]; rfl
   ·rw [List.length_map] at hp
    obtain ⟨b2, base, e1, e2⟩ := ha (by omega)
    exact ⟨b2, base, e1, fun i j hi hj => e2 i j (by rw [List.length_map] at hi; omega) hj⟩
   ·rw [List.length_map] at hi
    exact h3 i j (by omega) hj
   ·rw [List.length_map] at hi
    obtain ⟨c, e1, e2⟩ := g2 i hi
    have h5 := h4 i j (by omega) hj
    rw [e1] at h5
    rw [nds_get hi]
    match j, hj with
    | 0, hj => exact h5
    | 1, hj => exact h5
    | 2, hj => exact cov_ints e2 S _ h5
 ·cases h; rw [hv.v_eq]; exact rv_nil 3
 ·cases h
theorem cov_nd {a : AV} {xs : List Int} (k l : Int) (h : toInts a = some xs) : Cov (.agg [.v (.int .i64 k), .v (.int .i64 l), a]) (.agg [.v (.int .i64 k), .v (.int .i64 l), aInts xs]) := fun S v hv => by
 cases hv with
 | agg _ us hl g1 g2 =>
  refine .agg _ us hl g1 fun i hi => ?_
  match i, hi with
  | 0, hi => exact g2 0 (by simp)
  | 1, hi => exact g2 1 (by simp)
  | 2, hi => exact cov_ints h S _ (g2 2 (by simp))
theorem okNs_len {ns : List Nd} (h : okNs ns = true) : ns.length ≤ 200 := by
 unfold okNs at h
 rw [Bool.and_eq_true, decide_eq_true_eq] at h
 exact h.1
theorem okNs_at {ns : List Nd} (h : okNs ns = true) {i : Nat} (hi : i < ns.length) : okI (ns.getD i nd0).1 = true ∧ okI (ns.getD i nd0).2.1 = true ∧ okInts (ns.getD i nd0).2.2 = true ∧ (ns.getD i nd0).2.2.length ≤ 400 := by
 unfold okNs at h
 rw [Bool.and_eq_true] at h
 have := List.all_eq_true.1 h.2 (ns.getD i nd0) (by simp [List.getD, hi])
 unfold okNd at this
 simp only [Bool.and_eq_true, decide_eq_true_eq] at this
 exact ⟨this.1.1.1, this.1.1.2, this.1.2, this.2⟩
end Go.Proofs.YtllkogdgmmcfgaaGreatDoor
/- Fo39: node.formed and Check, the reference's Formed and Valid; no condition. -/
namespace Go.Proofs.YtllkogdgmmcfgaaGreatDoor
set_option linter.unusedVariables false
set_option linter.unusedSimpArgs false
set_option linter.unusedSectionVars false
open Go.RowKit
open Wlk
attribute [-simp] List.getD_eq_getElem?_getD
set_option maxRecDepth 100000
def badIn (i x : Int) : Bool := decide (x < 0) || decide (i ≤ x)
theorem badIn_any (xs : List Int) (i : Int) : xs.any (badIn i) = !xs.all (fun k => decide (0 ≤ k) && decide (k < i)) := by
 induction xs with
 | nil => rfl
 | cons a r ih =>
  rw [List.any_cons, List.all_cons, ih, Bool.not_and]
  congr 1
  unfold badIn
  by_cases h1 : a < 0 <;> by_cases h2 : i ≤ a <;> simp [h1, h2] <;> omega
theorem formed1_looks (k l i : Int) (xs : List Int) (hx : okInts xs = true) (hi : okI i = true) : Looks Tryz.prog [(0, ⟨32, 3, [[.v (.int .i64 k), .v (.int .i64 l), aInts xs]]⟩), (1, ⟨3, 1, [[.v (.int .i64 i)]]⟩)] [1, 0] 73 [.ptr 1 0 0] (avI xs) (onI (badIn i)) := by
 refine ⟨by kernel_rfl, _, _, Tryz.func73, rfl, by simp [Tryz.ntmps73], fun x hxm B hI hro => ?_⟩
 obtain ⟨y, hy, rfl⟩ := List.mem_map.1 hxm
 have ho := okInts_mem hx y hy
 rw [Tryz.ntmps73, Tryz.results73]
 simp only [enumA]
 by_cases h1 : y < 0
 ·have hb : badIn i y = true := by simp [badIn, h1]
  refine amGo PT11_ok (h := ?_)
  refine ⟨.inr rfl, ?_, rfl, rfl⟩
  simp [retA, retL, ret1, lk, st, onI, hb]
 ·have hb : badIn i y = decide (i ≤ y) := by simp [badIn, h1]
  refine amGo PT11_ok (h := ?_)
  refine ⟨.inr rfl, ?_, rfl, rfl⟩
  simp [retA, retL, ret1, lk, st, onI, hb]
theorem formed_p (k l n i : Int) (xs : List Int) (hk : okI k = true) (hl : okI l = true) (hx : okInts xs = true) (hn : okI n = true) (hi : okI i = true) : FnPure Tryz.prog 43 [.agg [.v (.int .i64 k), .v (.int .i64 l), aInts xs], .v (.int .i64 n), .v (.int .i64 i)] (.v (.bool (formB (k, l, xs) n i))) := by
 have hm := okInts_len hx
 have hlk := formed1_looks k l i xs hx hi
 have hbad := badIn_any xs i
 unfold formB
 generalize hall : (xs.all fun k => decide (0 ≤ k) && decide (k < i)) = bb at hbad ⊢
 refine fn_sp TT_ok Tryz.func43 (c := _) rfl (by simp [Tryz.ntmps43]) (fun B hI0 hro => ?_)
 rw [Tryz.ntmps43]
 simp only [enumA]
 refine amGo PT11_ok (h := ?_)
 refine s_regionL ?_
 ((iterate 3 (((with_reducible refine spl_step TT_ok PT11_ok (id := 0) (σ' := ?_) ?_ ?_); rotate_left; (focus (simp [*]; rfl))))))
 refine spl_call TT_ok rfl rfl rfl (by kernel_rfl) Tryz.func72 rfl (avs := [aInts xs, .clo 73 [.ptr 1 0 0]]) (cs := []) rfl rfl (by simp [Tryz.ntmps72]) fun B' hI' hro' => ?_
 refine sp_mono (cntFI_sp (fun k ob hk => ?_) (by omega) (fun k hk => ?_) hlk rfl hI') fun e τ hq => ?_
 ·simp only [lk] at hk
  split at hk
  ·cases hk; rename_i e; subst e; simp [idsLL, idsL, AV.ids]
  ·split at hk
   ·cases hk; rename_i e; subst e; simp [idsLL, idsL, AV.ids]
   ·cases hk
 ·have : k = 1 := by simpa [idsL, AV.ids] using hk
  simp [this]
 obtain ⟨h1, h2, h3, h4⟩ := hq
 refine ⟨h1, _, h2, ?_⟩
 rw [h3, h4, hbad]
 clear h1 h2 h3 h4 hlk hbad hall
 refine spl_nil ?_
 cases bb with
 | false =>
  refine amGo PT11_ok (h := ?_)
  (refine amRt Tryz.results43 (h := ?_); try simp [*])
 | true =>
  by_cases k0 : k = 0
  ·subst k0
   by_cases z : l = 0
   ·refine amGo PT11_ok (h := ?_)
    (refine amRt Tryz.results43 (h := ?_); try simp [*])
    all_goals (rw [Bool.eq_iff_iff]; simp; try omega)
   ·have hz : (l == 0) = false := by simp [z]
    refine amGo PT11_ok (h := ?_)
    (refine amRt Tryz.results43 (h := ?_); try simp [*])
  by_cases k1 : k = 1
  ·subst k1
   by_cases z : l = 0
   ·refine amGo PT11_ok (h := ?_)
    (refine amRt Tryz.results43 (h := ?_); try simp [*])
    all_goals (rw [Bool.eq_iff_iff]; simp; try omega)
   ·have hz : (l == 0) = false := by simp [z]
    refine amGo PT11_ok (h := ?_)
    (refine amRt Tryz.results43 (h := ?_); try simp [*])
  by_cases k2 : k = 2
  ·subst k2
   cases z : litOk l n
   ·refine amGo PT11_ok (h := ?_)
    (refine amRt Tryz.results43 (h := ?_); try simp [*])
   ·refine amGo PT11_ok (h := ?_)
    (refine amRt Tryz.results43 (h := ?_); try simp [*])
    all_goals (rw [Bool.eq_iff_iff]; simp; try omega)
  by_cases k3 : k = 3
  ·subst k3
   refine amGo PT11_ok (h := ?_)
   (refine amRt Tryz.results43 (h := ?_); try simp [*])
   all_goals (rw [Bool.eq_iff_iff]; simp)
  by_cases k4 : k = 4
  ·subst k4
   refine amGo PT11_ok (h := ?_)
   (refine amRt Tryz.results43 (h := ?_); try simp [*])
   all_goals (rw [Bool.eq_iff_iff]; simp)
  refine amGo PT11_ok (h := ?_)
  (refine amRt Tryz.results43 (h := ?_); try simp [*])
@[simp] def g_nFormed : List AV → Option (AV × Bool)
 | [.agg [.v (.int .i64 k), .v (.int .i64 l), a0], .v (.int .i64 n), .v (.int .i64 i)] => (match toInts a0 with | some xs => if (okI k && okI l && okInts xs && okI n && okI i) = true then some (.v (.bool (formB (k, l, xs) n i)), false) else none | none => none)
 | _ => none
theorem e_nFormed : EntOk Tryz.prog 43 g_nFormed := ent_pure (by kernel_rfl) fun args r fr h => by
 unfold g_nFormed at h
 split at h
 ·rename_i k l a0 n i
  split at h
  ·rename_i xs t0
   split at h
   ·rename_i hc
    simp only [Bool.and_eq_true] at hc
    obtain ⟨⟨⟨⟨m0, l0⟩, o0⟩, o1⟩, o2⟩ := hc
    cases h
    exact ⟨FnPure.cov (formed_p k l n i xs m0 l0 o0 o1 o2) (.cons (cov_nd _ _ t0) (.cons (Cov.refl _) (.cons (Cov.refl _) .nil))), rfl⟩
   ·cases h
  ·cases h
 ·cases h

def l130 : List (FuncId × (List AV → Option (AV × Bool))) :=
 (43, g_nFormed) :: l11
theorem l130_ok : ∀ p ∈ l130, EntOk Tryz.prog p.1 p.2 := ent_cons e_nFormed (l11_ok)
def PT130 : PTab := tab l130
theorem PT130_ok : PTok Tryz.prog PT130 := tab_ok l130_ok
@[simp] theorem PT130_nFormed : PT130 43 = g_nFormed := rfl
@[simp] theorem PT130_old (f : FuncId) (h : decide (f ≠ 43) = true) : PT130 f = PT11 f := tab_old (of_decide_eq_true h)
end Go.Proofs.YtllkogdgmmcfgaaGreatDoor
/- Ch39: node.Check; no condition. -/
namespace Go.Proofs.YtllkogdgmmcfgaaGreatDoor
set_option linter.unusedVariables false
set_option linter.unusedSimpArgs false
set_option linter.unusedSectionVars false
open Go.RowKit
open Wlk
attribute [-simp] List.getD_eq_getElem?_getD
set_option maxRecDepth 100000
theorem all_rangeN {n : Nat} {f : Nat → Bool} (h : ∀ j, j < n → f j = true) : (List.range n).all f = true := List.all_eq_true.2 fun j hj => h j (List.mem_range.1 hj)
theorem all_rangeF {n j : Nat} {f : Nat → Bool} (hj : j < n) (h : f j = false) : (List.range n).all f = false := List.all_eq_false.2 ⟨j, List.mem_range.2 hj, by rw [h]; decide⟩
def errN (N : Int) (ns : List Nd) : Int := if validN N ns = true then 0 else 1
theorem valid_no {N : Int} {ns : List Nd} (h : N < 0 ∨ 128 < N ∨ ns.length = 0 ∨ 65536 < ns.length) : validN N ns = false := by
 unfold validN
 rcases h with h | h | h | h
 ·rw [decide_eq_false (show ¬ 0 ≤ N by omega)]; simp
 ·rw [decide_eq_false (show ¬ N ≤ 128 by omega)]; simp
 ·rw [decide_eq_false (show ¬ 1 ≤ ns.length by omega)]; simp
 ·rw [decide_eq_false (show ¬ ns.length ≤ 65536 by omega)]; simp
theorem valid_not {N : Int} {ns : List Nd} {k : Nat} (hk : k < ns.length) (h : formB (ns.getD k nd0) N k = false) : validN N ns = false := by
 unfold validN
 rw [all_rangeF (f := fun i => formB (ns.getD i nd0) N i) hk h]; simp
theorem valid_yes {N : Int} {ns : List Nd} (h1 : 0 ≤ N) (h2 : N ≤ 128) (h3 : 1 ≤ ns.length) (h4 : ns.length ≤ 65536) (h : ∀ j, j < ns.length → formB (ns.getD j nd0) N j = true) : validN N ns = true := by
 unfold validN
 rw [decide_eq_true h1, decide_eq_true h2, decide_eq_true h3, decide_eq_true h4, all_rangeN (f := fun i => formB (ns.getD i nd0) N i) h]; rfl
theorem check_p (N : Int) (ns : List Nd) (hN : okI N = true) (h : okNs ns = true) : FnPure Tryz.prog 23 [aNet N ns] (.v (.int .i64 (errN N ns))) := by
 have hl := okNs_len h
 unfold aNet aNds errN
 by_cases n0 : N < 0
 ·rw [valid_no (.inl n0)]
  refine fn_sp TT_ok Tryz.func23 (c := _) rfl (by simp [Tryz.ntmps23]) (fun B hI0 hro => ?_)
  rw [Tryz.ntmps23]
  simp only [enumA]
  refine amGo PT130_ok (h := ?_)
  (refine amRt Tryz.results23 (h := ?_); try simp [*])
 by_cases n1 : 128 < N
 ·rw [valid_no (.inr (.inl n1))]
  refine fn_sp TT_ok Tryz.func23 (c := _) rfl (by simp [Tryz.ntmps23]) (fun B hI0 hro => ?_)
  rw [Tryz.ntmps23]
  simp only [enumA]
  refine amGo PT130_ok (h := ?_)
  (refine amRt Tryz.results23 (h := ?_); try simp [*])
 by_cases l0 : ns.length = 0
 ·rw [valid_no (.inr (.inr (.inl l0)))]
  have l1 : (ns.length : Int) < 1 := by omega
  refine fn_sp TT_ok Tryz.func23 (c := _) rfl (by simp [Tryz.ntmps23]) (fun B hI0 hro => ?_)
  rw [Tryz.ntmps23]
  simp only [enumA]
  refine amGo PT130_ok (h := ?_)
  (refine amRt Tryz.results23 (h := ?_); try simp [*])
 have l1 : ¬ (ns.length : Int) < 1 := by omega
 have l2 : ¬ (65536 : Int) < (ns.length : Int) := by omega
 refine fn_sp TT_ok Tryz.func23 (c := _) rfl (by simp [Tryz.ntmps23]) (fun B hI0 hro => ?_)
 rw [Tryz.ntmps23]
 simp only [enumA]
 refine amGo PT130_ok (h := ?_)
 refine s_loop (J := fun i : {k : Nat // k ≤ ns.length ∧ ∀ j, j < k → formB (ns.getD j nd0) N j = true} => ⟨40, [(1, .ptr 0 0 0), (26, .sl 3 (ns.map fun x => [AV.v (.int .i64 x.1), .v (.int .i64 x.2.1), aInts x.2.2])), (27, .v (.int .i64 (ns.length : Int))), (28, .v (.int .i64 (i.1 : Int)))], [(0, ⟨28, 2, [[.v (.int .i64 N), .sl 3 (ns.map fun x => [AV.v (.int .i64 x.1), .v (.int .i64 x.2.1), aInts x.2.2])]]⟩)], [0]⟩) (μ := fun i => ns.length - i.1) ⟨0, Nat.zero_le _, fun j hj => by omega⟩ ?_ (fun ⟨k, hk, he⟩ => ?_)
 ·(refine weak_id rfl ?_ ?_ <;> ((try simp only [List.mem_cons, List.not_mem_nil, or_false, forall_eq_or_imp, forall_eq]); (try simp (disch := omega) [i64w, *])))
 refine amGo PT130_ok (h := ?_)
 (focus ((with_reducible refine sp_cond (b := ?_) ?_ (fun hc => ?_) (fun hc => ?_)); rotate_left; (focus (first | rfl | (simp [lk, AS.ev]; rfl))); all_goals (try simp at hc)))
 ·have hkk := hc
  clear hc
  obtain ⟨o1, o2, o3, _⟩ := okNs_at h hkk
  have o4 : okI (k : Int) = true := okI_iff.2 ⟨by omega, by omega⟩
  cases h1 : formB (ns.getD k nd0) N k
  ·have hv := valid_not hkk h1
   refine amGo PT130_ok (h := ?_)
   (refine amRt Tryz.results23 (h := ?_); try simp [*])
  ·refine amGo PT130_ok (h := ?_)
   refine k_lp (⟨k + 1, by omega, fun j hj => ?_⟩ : {k : Nat // k ≤ ns.length ∧ ∀ j, j < k → formB (ns.getD j nd0) N j = true}) (by dsimp only; omega) ?_
   ·by_cases e : j < k
    ·exact he j e
    ·obtain rfl : j = k := by omega
     exact h1
   ·(refine weak_id rfl ?_ ?_ <;> ((try simp only [List.mem_cons, List.not_mem_nil, or_false, forall_eq_or_imp, forall_eq]); (try simp (disch := omega) [i64w, *])))
 ·obtain rfl : k = ns.length := by omega
  have hv := valid_yes (by omega) (by omega) (by omega) (by omega) he
  refine amGo PT130_ok (h := ?_)
  (refine amRt Tryz.results23 (h := ?_); try simp [*])
@[simp] def g_nCheck : List AV → Option (AV × Bool)
 | [.agg [.v (.int .i64 N), a0]] => (match toNds a0 with | some ns => if (okI N && okNs ns) = true then some (.v (.int .i64 (errN N ns)), false) else none | none => none)
 | _ => none
theorem e_nCheck : EntOk Tryz.prog 23 g_nCheck := ent_pure (by kernel_rfl) fun args r fr h => by
 unfold g_nCheck at h
 split at h
 ·rename_i N a0
  split at h
  ·rename_i ns t0
   split at h
   ·rename_i hc
    simp only [Bool.and_eq_true] at hc
    obtain ⟨m0, o0⟩ := hc
    cases h
    exact ⟨FnPure.cov (check_p N ns m0 o0) (.cons (cov_th _ (cov_nds t0)) .nil), rfl⟩
   ·cases h
  ·cases h
 ·cases h

def l131 : List (FuncId × (List AV → Option (AV × Bool))) :=
 (23, g_nCheck) :: l130
theorem l131_ok : ∀ p ∈ l131, EntOk Tryz.prog p.1 p.2 := ent_cons e_nCheck (l130_ok)
def PT131 : PTab := tab l131
theorem PT131_ok : PTok Tryz.prog PT131 := tab_ok l131_ok
@[simp] theorem PT131_nCheck : PT131 23 = g_nCheck := rfl
@[simp] theorem PT131_old (f : FuncId) (h : decide (f ≠ 23) = true) : PT131 f = PT130 f := tab_old (of_decide_eq_true h)
end Go.Proofs.YtllkogdgmmcfgaaGreatDoor
/- Rv39: The reference's Var, Valid and Formed; no condition. -/
namespace Go.Proofs.YtllkogdgmmcfgaaGreatDoor
set_option linter.unusedVariables false
set_option linter.unusedSimpArgs false
set_option linter.unusedSectionVars false
open Go.RowKit
open Wlk
attribute [-simp] List.getD_eq_getElem?_getD
set_option maxRecDepth 100000
theorem rVar_p (l : Int) (h : okI l = true) : FnPure Tryz.prog 71 [.v (.int .i64 l)] (.v (.int .i64 (litVar l))) := by
 have hI := okI_iff.1 h
 by_cases h1 : 1 ≤ l
 ·by_cases h2 : l ≤ 128
  ·rw [litVar_pos h1 h2]
   refine fn_sp TT_ok Tryz.func71 (c := _) rfl (by simp [Tryz.ntmps71]) (fun B hI0 hro => ?_)
   rw [Tryz.ntmps71]
   simp only [enumA]
   refine amGo PT131_ok (h := ?_)
   (refine amRt Tryz.results71 (h := ?_); try simp [*])
  ·rw [litVar_no (by omega)]
   have h3 : ¬ l ≤ -1 := by omega
   have h4 : -128 ≤ l := by omega
   refine fn_sp TT_ok Tryz.func71 (c := _) rfl (by simp [Tryz.ntmps71]) (fun B hI0 hro => ?_)
   rw [Tryz.ntmps71]
   simp only [enumA]
   refine amGo PT131_ok (h := ?_)
   (refine amRt Tryz.results71 (h := ?_); try simp [*])
 ·by_cases h2 : -128 ≤ l
  ·by_cases h3 : l ≤ -1
   ·rw [litVar_neg h2 h3]
    have hw : IntKind.i64.wrap (-l) = -l := i64w (by omega) (by omega)
    refine fn_sp TT_ok Tryz.func71 (c := _) rfl (by simp [Tryz.ntmps71]) (fun B hI0 hro => ?_)
    rw [Tryz.ntmps71]
    simp only [enumA]
    refine amGo PT131_ok (h := ?_)
    (refine amRt Tryz.results71 (h := ?_); try simp [*])
   ·rw [litVar_no (by omega)]
    refine fn_sp TT_ok Tryz.func71 (c := _) rfl (by simp [Tryz.ntmps71]) (fun B hI0 hro => ?_)
    rw [Tryz.ntmps71]
    simp only [enumA]
    refine amGo PT131_ok (h := ?_)
    (refine amRt Tryz.results71 (h := ?_); try simp [*])
  ·rw [litVar_no (by omega)]
   refine fn_sp TT_ok Tryz.func71 (c := _) rfl (by simp [Tryz.ntmps71]) (fun B hI0 hro => ?_)
   rw [Tryz.ntmps71]
   simp only [enumA]
   refine amGo PT131_ok (h := ?_)
   (refine amRt Tryz.results71 (h := ?_); try simp [*])
@[simp] def g_r4Var : List AV → Option (AV × Bool)
 | [.v (.int .i64 l)] => if (okI l) = true then some (.v (.int .i64 (litVar l)), false) else none
 | _ => none
theorem e_r4Var : EntOk Tryz.prog 71 g_r4Var := ent_pure (by kernel_rfl) fun args r fr h => by
 unfold g_r4Var at h
 split at h
 ·rename_i l
  split at h
  ·rename_i hc
   have o0 := hc
   cases h
   exact ⟨FnPure.cov (rVar_p l o0) (.cons (Cov.refl _) .nil), rfl⟩
  ·cases h
 ·cases h

def l132 : List (FuncId × (List AV → Option (AV × Bool))) :=
 (71, g_r4Var) :: l131
theorem l132_ok : ∀ p ∈ l132, EntOk Tryz.prog p.1 p.2 := ent_cons e_r4Var (l131_ok)
def PT132 : PTab := tab l132
theorem PT132_ok : PTok Tryz.prog PT132 := tab_ok l132_ok
@[simp] theorem PT132_r4Var : PT132 71 = g_r4Var := rfl
@[simp] theorem PT132_old (f : FuncId) (h : decide (f ≠ 71) = true) : PT132 f = PT131 f := tab_old (of_decide_eq_true h)
end Go.Proofs.YtllkogdgmmcfgaaGreatDoor
/- Rw39: The reference's Valid of a literal; no condition. -/
namespace Go.Proofs.YtllkogdgmmcfgaaGreatDoor
set_option linter.unusedVariables false
set_option linter.unusedSimpArgs false
set_option linter.unusedSectionVars false
open Go.RowKit
open Wlk
attribute [-simp] List.getD_eq_getElem?_getD
set_option maxRecDepth 100000
theorem r4Valid_p (l n : Int) (h : okI l = true) (hn : okI n = true) : FnPure Tryz.prog 69 [.v (.int .i64 l), .v (.int .i64 n)] (.v (.bool (litOk l n))) := by
 obtain ⟨v1, v2⟩ := litVar_range l
 unfold litOk
 by_cases h1 : 0 < litVar l
 ·rw [decide_eq_true h1, Bool.true_and]
  refine fn_sp TT_ok Tryz.func69 (c := _) rfl (by simp [Tryz.ntmps69]) (fun B hI0 hro => ?_)
  rw [Tryz.ntmps69]
  simp only [enumA]
  refine amGo PT132_ok (h := ?_)
  (refine amRt Tryz.results69 (h := ?_); try simp [*])
 ·rw [decide_eq_false h1, Bool.false_and]
  refine fn_sp TT_ok Tryz.func69 (c := _) rfl (by simp [Tryz.ntmps69]) (fun B hI0 hro => ?_)
  rw [Tryz.ntmps69]
  simp only [enumA]
  refine amGo PT132_ok (h := ?_)
  (refine amRt Tryz.results69 (h := ?_); try simp [*])
@[simp] def g_r4Valid : List AV → Option (AV × Bool)
 | [.v (.int .i64 l), .v (.int .i64 n)] => if (okI l && okI n) = true then some (.v (.bool (litOk l n)), false) else none
 | _ => none
theorem e_r4Valid : EntOk Tryz.prog 69 g_r4Valid := ent_pure (by kernel_rfl) fun args r fr h => by
 unfold g_r4Valid at h
 split at h
 ·rename_i l n
  split at h
  ·rename_i hc
   simp only [Bool.and_eq_true] at hc
   obtain ⟨o0, o1⟩ := hc
   cases h
   exact ⟨FnPure.cov (r4Valid_p l n o0 o1) (.cons (Cov.refl _) (.cons (Cov.refl _) .nil)), rfl⟩
  ·cases h
 ·cases h

def l133 : List (FuncId × (List AV → Option (AV × Bool))) :=
 (69, g_r4Valid) :: l132
theorem l133_ok : ∀ p ∈ l133, EntOk Tryz.prog p.1 p.2 := ent_cons e_r4Valid (l132_ok)
def PT133 : PTab := tab l133
theorem PT133_ok : PTok Tryz.prog PT133 := tab_ok l133_ok
@[simp] theorem PT133_r4Valid : PT133 69 = g_r4Valid := rfl
@[simp] theorem PT133_old (f : FuncId) (h : decide (f ≠ 69) = true) : PT133 f = PT132 f := tab_old (of_decide_eq_true h)
end Go.Proofs.YtllkogdgmmcfgaaGreatDoor
/- Ry39: The reference's Formed; no condition. -/
namespace Go.Proofs.YtllkogdgmmcfgaaGreatDoor
set_option linter.unusedVariables false
set_option linter.unusedSimpArgs false
set_option linter.unusedSectionVars false
open Go.RowKit
open Wlk
attribute [-simp] List.getD_eq_getElem?_getD
set_option maxRecDepth 100000
theorem all_bad {xs : List Int} {i : Int} {j : Nat} (hj : j < xs.length) (h : badIn i (xs.getD j 0) = true) : (xs.all fun k => decide (0 ≤ k) && decide (k < i)) = false := by
 have h2 := badIn_any xs i
 have : xs.any (badIn i) = true := List.any_eq_true.2 ⟨xs.getD j 0, by simp [List.getD, hj], h⟩
 rw [this] at h2
 simpa using h2.symm
theorem all_good {xs : List Int} {i : Int} (h : ∀ j, j < xs.length → badIn i (xs.getD j 0) = false) : (xs.all fun k => decide (0 ≤ k) && decide (k < i)) = true := by
 have h2 := badIn_any xs i
 have : xs.any (badIn i) = false := by
  rw [List.any_eq_false]
  intro x hx
  obtain ⟨j, hj, rfl⟩ := List.mem_iff_getElem.1 hx
  have := h j hj
  simp only [List.getD, List.getElem?_eq_getElem hj, Option.getD_some] at this
  rw [this]; decide
 rw [this] at h2
 simpa using h2.symm
theorem rFormed_p (k l n i : Int) (xs : List Int) (hk : okI k = true) (hl : okI l = true) (hx : okInts xs = true) (hn : okI n = true) (hi : okI i = true) : FnPure Tryz.prog 35 [.agg [.v (.int .i64 k), .v (.int .i64 l), aInts xs], .v (.int .i64 n), .v (.int .i64 i)] (.v (.bool (formB (k, l, xs) n i))) := by
 have hm := okInts_len hx
 unfold formB
 refine fn_sp TT_ok Tryz.func35 (c := _) rfl (by simp [Tryz.ntmps35]) (fun B hI0 hro => ?_)
 rw [Tryz.ntmps35]
 simp only [enumA]
 refine amGo PT133_ok (h := ?_)
 refine s_loop (J := fun j : {j : Nat // j ≤ xs.length ∧ ∀ m, m < j → badIn i (xs.getD m 0) = false} => ⟨62, [(1, .v (.int .i64 n)), (2, .v (.int .i64 i)), (3, .ptr 0 0 0), (7, .v (.int .i64 (j.1 : Int)))], [(0, ⟨32, 3, [[.v (.int .i64 k), .v (.int .i64 l), aInts xs]]⟩)], [0]⟩) (μ := fun j => xs.length - j.1) ⟨0, Nat.zero_le _, fun m hm => by omega⟩ ?_ (fun ⟨j, hj, he⟩ => ?_)
 ·(refine weak_id rfl ?_ ?_ <;> ((try simp only [List.mem_cons, List.not_mem_nil, or_false, forall_eq_or_imp, forall_eq]); (try simp (disch := omega) [i64w, *])))
 refine amGo PT133_ok (h := ?_)
 (focus ((with_reducible refine sp_cond (b := ?_) ?_ (fun hc => ?_) (fun hc => ?_)); rotate_left; (focus (first | rfl | (simp [lk, AS.ev]; rfl))); all_goals (try simp at hc)))
 ·have hkk := hc
  clear hc
  have ho := okI_iff.2 (okInts_at hx j)
  by_cases h1 : xs.getD j 0 < 0
  ·rw [all_bad hkk (by unfold badIn; rw [decide_eq_true h1]; rfl), Bool.false_and]
   refine amGo PT133_ok (h := ?_)
   (refine amRt Tryz.results35 (h := ?_); try simp [*])
  ·by_cases h2 : i ≤ xs.getD j 0
   ·rw [all_bad hkk (by unfold badIn; rw [decide_eq_true h2, Bool.or_true]), Bool.false_and]
    refine amGo PT133_ok (h := ?_)
    (refine amRt Tryz.results35 (h := ?_); try simp [*])
   ·have h3 : badIn i (xs.getD j 0) = false := by unfold badIn; rw [decide_eq_false h1, decide_eq_false h2]; rfl
    refine amGo PT133_ok (h := ?_)
    refine k_lp (⟨j + 1, by omega, fun m hm => ?_⟩ : {j : Nat // j ≤ xs.length ∧ ∀ m, m < j → badIn i (xs.getD m 0) = false}) (by dsimp only; omega) ?_
    ·by_cases e : m < j
     ·exact he m e
     ·obtain rfl : m = j := by omega
      exact h3
    ·(refine weak_id rfl ?_ ?_ <;> ((try simp only [List.mem_cons, List.not_mem_nil, or_false, forall_eq_or_imp, forall_eq]); (try simp (disch := omega) [i64w, *])))
 ·obtain rfl : j = xs.length := by omega
  rw [all_good he, Bool.true_and]
  clear hc
  by_cases k0 : k = 0
  ·subst k0
   by_cases z : l = 0
   ·refine amGo PT133_ok (h := ?_)
    (refine amRt Tryz.results35 (h := ?_); try simp [*])
    all_goals (rw [Bool.eq_iff_iff]; simp; try omega)
   ·have hz : (l == 0) = false := by simp [z]
    refine amGo PT133_ok (h := ?_)
    (refine amRt Tryz.results35 (h := ?_); try simp [*])
  by_cases k1 : k = 1
  ·subst k1
   by_cases z : l = 0
   ·refine amGo PT133_ok (h := ?_)
    (refine amRt Tryz.results35 (h := ?_); try simp [*])
    all_goals (rw [Bool.eq_iff_iff]; simp; try omega)
   ·have hz : (l == 0) = false := by simp [z]
    refine amGo PT133_ok (h := ?_)
    (refine amRt Tryz.results35 (h := ?_); try simp [*])
  by_cases k2 : k = 2
  ·subst k2
   cases z : litOk l n
   ·refine amGo PT133_ok (h := ?_)
    (refine amRt Tryz.results35 (h := ?_); try simp [*])
   ·refine amGo PT133_ok (h := ?_)
    (refine amRt Tryz.results35 (h := ?_); try simp [*])
    all_goals (rw [Bool.eq_iff_iff]; simp; try omega)
  by_cases k3 : k = 3
  ·subst k3
   refine amGo PT133_ok (h := ?_)
   (refine amRt Tryz.results35 (h := ?_); try simp [*])
   all_goals (rw [Bool.eq_iff_iff]; simp)
  by_cases k4 : k = 4
  ·subst k4
   refine amGo PT133_ok (h := ?_)
   (refine amRt Tryz.results35 (h := ?_); try simp [*])
   all_goals (rw [Bool.eq_iff_iff]; simp)
  refine amGo PT133_ok (h := ?_)
  (refine amRt Tryz.results35 (h := ?_); try simp [*])
@[simp] def g_rFormed : List AV → Option (AV × Bool)
 | [.agg [.v (.int .i64 k), .v (.int .i64 l), a0], .v (.int .i64 n), .v (.int .i64 i)] => (match toInts a0 with | some xs => if (okI k && okI l && okInts xs && okI n && okI i) = true then some (.v (.bool (formB (k, l, xs) n i)), false) else none | none => none)
 | _ => none
theorem e_rFormed : EntOk Tryz.prog 35 g_rFormed := ent_pure (by kernel_rfl) fun args r fr h => by
 unfold g_rFormed at h
 split at h
 ·rename_i k l a0 n i
  split at h
  ·rename_i xs t0
   split at h
   ·rename_i hc
    simp only [Bool.and_eq_true] at hc
    obtain ⟨⟨⟨⟨m0, l0⟩, o0⟩, o1⟩, o2⟩ := hc
    cases h
    exact ⟨FnPure.cov (rFormed_p k l n i xs m0 l0 o0 o1 o2) (.cons (cov_nd _ _ t0) (.cons (Cov.refl _) (.cons (Cov.refl _) .nil))), rfl⟩
   ·cases h
  ·cases h
 ·cases h

def l134 : List (FuncId × (List AV → Option (AV × Bool))) :=
 (35, g_rFormed) :: l133
theorem l134_ok : ∀ p ∈ l134, EntOk Tryz.prog p.1 p.2 := ent_cons e_rFormed (l133_ok)
def PT134 : PTab := tab l134
theorem PT134_ok : PTok Tryz.prog PT134 := tab_ok l134_ok
@[simp] theorem PT134_rFormed : PT134 35 = g_rFormed := rfl
@[simp] theorem PT134_old (f : FuncId) (h : decide (f ≠ 35) = true) : PT134 f = PT133 f := tab_old (of_decide_eq_true h)
end Go.Proofs.YtllkogdgmmcfgaaGreatDoor
/- Vd39: The reference's Valid of a net; no condition. -/
namespace Go.Proofs.YtllkogdgmmcfgaaGreatDoor
set_option linter.unusedVariables false
set_option linter.unusedSimpArgs false
set_option linter.unusedSectionVars false
open Go.RowKit
open Wlk
attribute [-simp] List.getD_eq_getElem?_getD
set_option maxRecDepth 100000
theorem rValid20_p (N : Int) (ns : List Nd) (hN : okI N = true) (h : okNs ns = true) : FnPure Tryz.prog 14 [aNet N ns] (.v (.bool (validN N ns))) := by
 have hl := okNs_len h
 unfold aNet aNds
 by_cases n0 : N < 0
 ·rw [valid_no (.inl n0)]
  refine fn_sp TT_ok Tryz.func14 (c := _) rfl (by simp [Tryz.ntmps14]) (fun B hI0 hro => ?_)
  rw [Tryz.ntmps14]
  simp only [enumA]
  refine amGo PT134_ok (h := ?_)
  (refine amRt Tryz.results14 (h := ?_); try simp [*])
 by_cases n1 : 128 < N
 ·rw [valid_no (.inr (.inl n1))]
  refine fn_sp TT_ok Tryz.func14 (c := _) rfl (by simp [Tryz.ntmps14]) (fun B hI0 hro => ?_)
  rw [Tryz.ntmps14]
  simp only [enumA]
  refine amGo PT134_ok (h := ?_)
  (refine amRt Tryz.results14 (h := ?_); try simp [*])
 by_cases l0 : ns.length = 0
 ·rw [valid_no (.inr (.inr (.inl l0)))]
  have l1 : (ns.length : Int) < 1 := by omega
  refine fn_sp TT_ok Tryz.func14 (c := _) rfl (by simp [Tryz.ntmps14]) (fun B hI0 hro => ?_)
  rw [Tryz.ntmps14]
  simp only [enumA]
  refine amGo PT134_ok (h := ?_)
  (refine amRt Tryz.results14 (h := ?_); try simp [*])
 have l1 : ¬ (ns.length : Int) < 1 := by omega
 have l2 : ¬ (65536 : Int) < (ns.length : Int) := by omega
 refine fn_sp TT_ok Tryz.func14 (c := _) rfl (by simp [Tryz.ntmps14]) (fun B hI0 hro => ?_)
 rw [Tryz.ntmps14]
 simp only [enumA]
 refine amGo PT134_ok (h := ?_)
 refine s_loop (J := fun i : {k : Nat // k ≤ ns.length ∧ ∀ j, j < k → formB (ns.getD j nd0) N j = true} => ⟨41, [(1, .ptr 0 0 0), (3, .v (.int .i64 (i.1 : Int)))], [(0, ⟨28, 2, [[.v (.int .i64 N), .sl 3 (ns.map fun x => [AV.v (.int .i64 x.1), .v (.int .i64 x.2.1), aInts x.2.2])]]⟩)], [0]⟩) (μ := fun i => ns.length - i.1) ⟨0, Nat.zero_le _, fun j hj => by omega⟩ ?_ (fun ⟨k, hk, he⟩ => ?_)
 ·(refine weak_id rfl ?_ ?_ <;> ((try simp only [List.mem_cons, List.not_mem_nil, or_false, forall_eq_or_imp, forall_eq]); (try simp (disch := omega) [i64w, *])))
 refine amGo PT134_ok (h := ?_)
 (focus ((with_reducible refine sp_cond (b := ?_) ?_ (fun hc => ?_) (fun hc => ?_)); rotate_left; (focus (first | rfl | (simp [lk, AS.ev]; rfl))); all_goals (try simp at hc)))
 ·have hkk := hc
  clear hc
  obtain ⟨o1, o2, o3, _⟩ := okNs_at h hkk
  have o4 : okI (k : Int) = true := okI_iff.2 ⟨by omega, by omega⟩
  cases h1 : formB (ns.getD k nd0) N k
  ·have hv := valid_not hkk h1
   refine amGo PT134_ok (h := ?_)
   (refine amRt Tryz.results14 (h := ?_); try simp [*])
  ·refine amGo PT134_ok (h := ?_)
   refine k_lp (⟨k + 1, by omega, fun j hj => ?_⟩ : {k : Nat // k ≤ ns.length ∧ ∀ j, j < k → formB (ns.getD j nd0) N j = true}) (by dsimp only; omega) ?_
   ·by_cases e : j < k
    ·exact he j e
    ·obtain rfl : j = k := by omega
     exact h1
   ·(refine weak_id rfl ?_ ?_ <;> ((try simp only [List.mem_cons, List.not_mem_nil, or_false, forall_eq_or_imp, forall_eq]); (try simp (disch := omega) [i64w, *])))
 ·obtain rfl : k = ns.length := by omega
  have hv := valid_yes (by omega) (by omega) (by omega) (by omega) he
  refine amGo PT134_ok (h := ?_)
  (refine amRt Tryz.results14 (h := ?_); try simp [*])
@[simp] def g_rValid20 : List AV → Option (AV × Bool)
 | [.agg [.v (.int .i64 N), a0]] => (match toNds a0 with | some ns => if (okI N && okNs ns) = true then some (.v (.bool (validN N ns)), false) else none | none => none)
 | _ => none
theorem e_rValid20 : EntOk Tryz.prog 14 g_rValid20 := ent_pure (by kernel_rfl) fun args r fr h => by
 unfold g_rValid20 at h
 split at h
 ·rename_i N a0
  split at h
  ·rename_i ns t0
   split at h
   ·rename_i hc
    simp only [Bool.and_eq_true] at hc
    obtain ⟨m0, o0⟩ := hc
    cases h
    exact ⟨FnPure.cov (rValid20_p N ns m0 o0) (.cons (cov_th _ (cov_nds t0)) .nil), rfl⟩
   ·cases h
  ·cases h
 ·cases h

def l135 : List (FuncId × (List AV → Option (AV × Bool))) :=
 (14, g_rValid20) :: l134
theorem l135_ok : ∀ p ∈ l135, EntOk Tryz.prog p.1 p.2 := ent_cons e_rValid20 (l134_ok)
def PT135 : PTab := tab l135
theorem PT135_ok : PTok Tryz.prog PT135 := tab_ok l135_ok
@[simp] theorem PT135_rValid20 : PT135 14 = g_rValid20 := rfl
@[simp] theorem PT135_old (f : FuncId) (h : decide (f ≠ 14) = true) : PT135 f = PT134 f := tab_old (of_decide_eq_true h)
end Go.Proofs.YtllkogdgmmcfgaaGreatDoor
