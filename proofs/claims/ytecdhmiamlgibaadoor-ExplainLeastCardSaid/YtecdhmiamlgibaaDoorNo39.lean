/- A net as an argument of a law; the rows of the laws; no condition. -/
import Derived.Test.YtecdhmiamlgibaaDoorBiG
import Derived.Test.YtecdhmiamlgibaaDoorEk39f
namespace Go.Proofs.YtecdhmiamlgibaaDoor
set_option linter.unusedVariables false
set_option linter.unusedSimpArgs false
set_option linter.unusedSectionVars false
open Go.RowKit Go.WideShapes Go.ChangeShapes Go.ChangeAt
set_option maxRecDepth 100000
theorem nds_ex : ∀ (ys : List (List AV)), (∀ q ∈ ys, ∃ k l xs, q = [.v (.int .i64 k), .v (.int .i64 l), aInts xs] ∧ okI k = true ∧ okI l = true ∧ okIL xs = true) → ∃ ns : List Nd, ys = ns.map (fun x => [AV.v (.int .i64 x.1), .v (.int .i64 x.2.1), aInts x.2.2]) ∧ ns.all okNd0 = true
 | [], _ => ⟨[], rfl, rfl⟩
 | y :: ys, h => by
  obtain ⟨k, l, xs, rfl, h1, h2, h3⟩ := h y (by simp)
  obtain ⟨ns, rfl, hn⟩ := nds_ex ys fun q hq => h q (List.mem_cons_of_mem _ hq)
  exact ⟨(k, l, xs) :: ns, rfl, by simp only [List.all_cons, okNd0, h1, h2, h3, hn, Bool.and_self]⟩
section
variable {H : Type} {enc : TypeId × Value → H} {W : World}
theorem opens_nd : Opens enc Tryd.prog W 57 (fun r => ∃ k l xs, r = [.v (.int .i64 k), .v (.int .i64 l), aInts xs] ∧ okI k = true ∧ okI l = true ∧ okIL xs = true) :=
 (opens_st3 (t0 := 3) (t1 := 3) (t2 := 34) (c0 := 1) (c1 := 1) (c2 := 1) Tryd.underlying57 rfl rfl rfl rfl rfl rfl (by kernel_rfl) (by kernel_rfl) (by kernel_rfl) (by kernel_rfl) opens_i64 opens_i64 opens_ints).mono fun r h => by
  obtain ⟨_, _, _, rfl, ⟨k, rfl, h1⟩, ⟨l, rfl, h2⟩, xs, rfl, h3⟩ := h
  exact ⟨k, l, xs, rfl, h1, h2, h3⟩
theorem opens_nds : Opens enc Tryd.prog W 22 (fun r => ∃ ns : List Nd, r = [aNds ns] ∧ okN0 ns = true) :=
 (opens_slice (sz := 3) Tryd.underlying22 (by kernel_rfl) (by omega) opens_nd).mono fun r h => by
  obtain ⟨ys, rfl, hl, hy⟩ := h
  obtain ⟨ns, rfl, hx⟩ := nds_ex ys hy
  refine ⟨ns, rfl, ?_⟩
  simp only [okN0, hx, Bool.and_true, decide_eq_true_eq]
  simpa [AMax] using hl
theorem opens_net : Opens enc Tryd.prog W 24 (fun r => ∃ N ns, r = [.v (.int .i64 N), aNds ns] ∧ okI N = true ∧ okN0 ns = true) :=
 (opens_st2 (t0 := 3) (t1 := 22) (c0 := 1) (c1 := 1) Tryd.underlying24 rfl rfl rfl rfl (by kernel_rfl) (by kernel_rfl) (by kernel_rfl) opens_i64 opens_nds).mono fun r h => by
  obtain ⟨_, _, rfl, ⟨N, rfl, hN⟩, ns, rfl, hL⟩ := h
  exact ⟨N, ns, rfl, hN, hL⟩
theorem arg_net {base : Nat} {sp : Nat → Bool} {held : Bool} {v : Value} {d : DataW H} {p : List MemPlace} (hval : Value.okWide Tryd.prog W .any base 24 v) (h : DataW.Trod enc Tryd.prog W 0 sp held 24 v d p) :
  ∃ N ns, Rv (G0 (allS W)) (aNet N ns) v ∧ okI N = true ∧ okN0 ns = true := by
 obtain ⟨row, h1, N, ns, rfl, h2, h3⟩ := arg_agg (.inl ⟨_, Tryd.underlying24⟩) hval h opens_net
 exact ⟨N, ns, h1, h2, h3⟩
end
@[simp] def g_works39 : List AV → Option (AV × Bool)
 | [] => if (true) = true then some (.v (.bool true), false) else none
 | _ => none
theorem e_works39 : EntOk Tryd.prog 13 g_works39 := ent_pure (by kernel_rfl) fun args r fr h => by
 unfold g_works39 at h
 split at h
 ·split at h
  ·rename_i hc
   cases h
   exact ⟨FnPure.cov (works_p) .nil, rfl⟩
  ·cases h
 ·cases h

def l152 : List (FuncId × (List AV → Option (AV × Bool))) :=
 (13, g_works39) :: l151
theorem l152_ok : ∀ p ∈ l152, EntOk Tryd.prog p.1 p.2 := ent_cons e_works39 (l151_ok)
def PT152 : PTab := tab l152
theorem PT152_ok : PTok Tryd.prog PT152 := tab_ok l152_ok
@[simp] theorem PT152_works39 : PT152 13 = g_works39 := rfl
@[simp] theorem PT152_old (f : FuncId) (h : decide (f ≠ 13) = true) : PT152 f = PT151 f := tab_old (of_decide_eq_true h)
end Go.Proofs.YtecdhmiamlgibaaDoor
