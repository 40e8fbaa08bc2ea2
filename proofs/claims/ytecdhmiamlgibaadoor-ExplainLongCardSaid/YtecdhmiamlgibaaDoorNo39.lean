/- A net as an argument of a law; the rows of the laws; no condition. -/
import Derived.Test.YtecdhmiamlgibaaDoorBiG
import Derived.Test.YtecdhmiamlgibaaDoorEk39f
namespace Go.Proofs.YtecdhmiamlgibaaDoor
set_option linter.unusedVariables false
set_option linter.unusedSimpArgs false
set_option linter.unusedSectionVars false
open Go.RowKit Go.WideShapes Go.ChangeShapes Go.ChangeAt
set_option maxRecDepth 100000
theorem nds_ex : ∀ (ys : List (List AV)), (∀ q ∈ ys, ∃ k l xs, q = [.v (.int .i64 k), .v (.int .i64 l), aInts xs] ∧ okI k = true ∧ okI l = true ∧ okIL xs = true) → ∃ ns : List Nd, ys = ns.map (fun x => [AV.v (.int .i64 x.1), .v (.int .i64 x.2.1), aInts x.2.2]) ∧ ns.all okNd0 = true
  | [], _ => ⟨[], rfl, rfl⟩
  | y :: ys, h => by
    obtain ⟨k, l, xs, rfl, h1, h2, h3⟩ := h y (by simp)
    obtain ⟨ns, rfl, hn⟩ := nds_ex ys fun q hq => h q (List.mem_cons_of_mem _ hq)
    exact ⟨(k, l, xs) :: ns, rfl, by simp only [List.all_cons, okNd0, h1, h2, h3, hn, Bool.and_self]⟩
section
variable {H : Type} {enc : TypeId × Value → H} {W : World}
theorem opens_nd : Opens enc Tryd.prog W 57 (fun r => ∃ k l xs, r = [.v (.int .i64 k), .v (.int .i64 l), aInts xs] ∧ okI k = true ∧ okI l = true ∧ okIL xs = true) :=
  (opens_st3 (t0 := 3) (t1 := 3) (t2 := 34) (c0 := 1) (c1 := 1) (c2 := 1) Tryd.underlying57 rfl rfl rfl rfl rfl rfl (by kernel_rfl) (by kernel_rfl) (by kernel_rfl) (by kernel_rfl) opens_i64 opens_i64 opens_ints).mono fun r h => by
    obtain ⟨_, _, _, rfl, ⟨k, rfl, h1⟩, ⟨l, rfl, h2⟩, xs, rfl, h3⟩ := h
    exact ⟨k, l, xs, rfl, h1, h2, h3⟩
theorem opens_nds : Opens enc Tryd.prog W 22 (fun r => ∃ ns : List Nd, r = [aNds ns] ∧ okN0 ns = true) :=
  (opens_slice (sz := 3) Tryd.underlying22 (by kernel_rfl) (by omega) opens_nd).mono fun r h => by
    obtain ⟨ys, rfl, hl, hy⟩ := h
    obtain ⟨ns, rfl, hx⟩ := nds_ex ys hy
    refine ⟨ns, rfl, ?_⟩
    simp only [okN0, hx, Bool.and_true, decide_eq_true_eq]
    simpa [AMax] using hl
theorem opens_net : Opens enc Tryd.prog W 24 (fun r => ∃ N ns, r = [.v (.int .i64 N), aNds ns] ∧ okI N = true ∧ okN0 ns = true) :=
  (opens_st2 (t0 := 3) (t1 := 22) (c0 := 1) (c1 := 1) Tryd.underlying24 rfl rfl rfl rfl (by kernel_rfl) (by kernel_rfl) (by kernel_rfl) opens_i64 opens_nds).mono fun r h => by
    obtain ⟨_, _, rfl, ⟨N, rfl, hN⟩, ns, rfl, hL⟩ := h
    exact ⟨N, ns, rfl, hN, hL⟩
theorem arg_net {base : Nat} {sp : Nat → Bool} {held : Bool} {v : Value} {d : DataW H} {p : List MemPlace} (hval : Value.okWide Tryd.prog W .any base 24 v) (h : DataW.Trod enc Tryd.prog W 0 sp held 24 v d p) :
    ∃ N ns, Rv (G0 (allS W)) (aNet N ns) v ∧ okI N = true ∧ okN0 ns = true := by
  obtain ⟨row, h1, N, ns, rfl, h2, h3⟩ := arg_agg (.inl ⟨_, Tryd.underlying24⟩) hval h opens_net
  exact ⟨N, ns, h1, h2, h3⟩
end
@[simp] def g_works39 : List AV → Option (AV × Bool)
  | [] => if (true) = true then some (.v (.bool true), false) else none
  | _ => none
theorem e_works39 : EntOk Tryd.prog 13 g_works39 := ent_pure (by kernel_rfl) fun args r fr h => by
  unfold g_works39 at h
  split at h
  · split at h
    · rename_i hc
      cases h
      exact ⟨FnPure.cov (works_p) .nil, rfl⟩
    · cases h
  · cases h

def l152 : List (FuncId × (List AV → Option (AV × Bool))) :=
  (13, g_works39) :: l151
theorem l152_ok : ∀ p ∈ l152, EntOk Tryd.prog p.1 p.2 := ent_cons e_works39 (l151_ok)
def PT152 : PTab := tab l152
theorem PT152_ok : PTok Tryd.prog PT152 := tab_ok l152_ok
@[simp] theorem PT152_litVar : PT152 85 = g_litVar := rfl
@[simp] theorem PT152_litValid : PT152 110 = g_litValid := rfl
@[simp] theorem PT152_with : PT152 26 = g_with := rfl
@[simp] theorem PT152_without : PT152 25 = g_without := rfl
@[simp] theorem PT152_all : PT152 29 = g_all := rfl
@[simp] theorem PT152_place : PT152 54 = g_place := rfl
@[simp] theorem PT152_vHas : PT152 36 = g_vHas := rfl
@[simp] theorem PT152_vMinus : PT152 31 = g_vMinus := rfl
@[simp] theorem PT152_vCut : PT152 22 = g_vCut := rfl
@[simp] theorem PT152_vUnion : PT152 21 = g_vUnion := rfl
@[simp] theorem PT152_vSub : PT152 72 = g_vSub := rfl
@[simp] theorem PT152_litHolds : PT152 56 = g_litHolds := rfl
@[simp] theorem PT152_nFormed : PT152 84 = g_nFormed := rfl
@[simp] theorem PT152_nCheck : PT152 55 = g_nCheck := rfl
@[simp] theorem PT152_r4Var : PT152 97 = g_r4Var := rfl
@[simp] theorem PT152_r4Valid : PT152 96 = g_r4Valid := rfl
@[simp] theorem PT152_rFormed : PT152 69 = g_rFormed := rfl
@[simp] theorem PT152_rValid20 : PT152 40 = g_rValid20 := rfl
@[simp] theorem PT152_r3Has : PT152 83 = g_r3Has := rfl
@[simp] theorem PT152_r3List : PT152 70 = g_r3List := rfl
@[simp] theorem PT152_r3Len : PT152 41 = g_r3Len := rfl
@[simp] theorem PT152_light39 : PT152 39 = g_light39 := rfl
@[simp] theorem PT152_r20Vars : PT152 71 = g_r20Vars := rfl
@[simp] theorem PT152_r39Mat : PT152 42 = g_r39Mat := rfl
@[simp] theorem PT152_few39 : PT152 12 = g_few39 := rfl
@[simp] theorem PT152_vOf : PT152 23 = g_vOf := rfl
@[simp] theorem PT152_nVars : PT152 91 = g_nVars := rfl
@[simp] theorem PT152_tIndex : PT152 53 = g_tIndex := rfl
@[simp] theorem PT152_tTerm : PT152 45 = g_tTerm := rfl
@[simp] theorem PT152_tChg : PT152 44 = g_tChg := rfl
@[simp] theorem PT152_vList : PT152 92 = g_vList := rfl
@[simp] theorem PT152_tTabled : PT152 62 = g_tTabled := rfl
@[simp] theorem PT152_tOpen : PT152 43 = g_tOpen := rfl
@[simp] theorem PT152_tBiased : PT152 20 = g_tBiased := rfl
@[simp] theorem PT152_works39 : PT152 13 = g_works39 := rfl
end Go.Proofs.YtecdhmiamlgibaaDoor
