/- Claims and bytes as arguments; the table of TraceWrites; no condition. -/
import Derived.Test.YthdjgcjpolpgdaaCd22
import Derived.Test.YthdjgcjpolpgdaaCvG
import Derived.Test.YthdjgcjpolpgdaaWk22
namespace Go.Proofs.Ythdjgcjpolpgdaa
set_option linter.unusedVariables false
set_option linter.unusedSimpArgs false
set_option linter.unusedSectionVars false
open Go.RowKit Go.WideShapes Go.ChangeShapes Go.ChangeAt
set_option maxRecDepth 100000
def okLC (l : List Cl) : Bool := (l.all fun p => okIL p.1 && okIL p.2) && decide (l.length ≤ 9223372036854775807)
theorem cls_ex : ∀ (ys : List (List AV)), (∀ q ∈ ys, ∃ ts cs, q = [aInts ts, aInts cs] ∧ okIL ts = true ∧ okIL cs = true) → ∃ l : List Cl, ys = l.map (fun p => [aInts p.1, aInts p.2]) ∧ (l.all fun p => okIL p.1 && okIL p.2) = true
  | [], _ => ⟨[], rfl, rfl⟩
  | y :: ys, h => by
    obtain ⟨ts, cs, rfl, h1, h2⟩ := h y (by simp)
    obtain ⟨l, rfl, hl⟩ := cls_ex ys fun q hq => h q (List.mem_cons_of_mem _ hq)
    exact ⟨(ts, cs) :: l, rfl, by simp only [List.all_cons, h1, h2, hl, Bool.and_self]⟩
def okB (xs : List Int) : Bool := xs.all fun x => decide (0 ≤ x) && decide (x < 256)
theorem bytes_ex : ∀ (ys : List (List AV)), (∀ q ∈ ys, ∃ x, q = [AV.v (.int .u8 x)] ∧ (Lit.int .u8 x).wf = true) → ∃ xs : List Int, ys = xs.map (fun x => [AV.v (.int .u8 x)]) ∧ okB xs = true
  | [], _ => ⟨[], rfl, rfl⟩
  | y :: ys, h => by
    obtain ⟨x, rfl, hx⟩ := h y (by simp)
    obtain ⟨xs, rfl, hxs⟩ := bytes_ex ys fun q hq => h q (List.mem_cons_of_mem _ hq)
    refine ⟨x :: xs, rfl, ?_⟩
    have := bounds_u8 hx
    unfold okB at hxs ⊢
    simp only [List.all_cons, hxs, Bool.and_true, Bool.and_eq_true, decide_eq_true_eq]
    omega
section
variable {H : Type} {enc : TypeId × Value → H} {W : World}
theorem opens_cl : Opens enc Try.prog W 27 (fun r => ∃ ts cs, r = [aInts ts, aInts cs] ∧ okIL ts = true ∧ okIL cs = true) :=
  (opens_st2 (t0 := 25) (t1 := 25) (c0 := 1) (c1 := 1) Try.underlying27 rfl rfl rfl rfl (by kernel_rfl) (by kernel_rfl) (by kernel_rfl) opens_ints opens_ints).mono fun r h => by
    obtain ⟨_, _, rfl, ⟨N, rfl, hN⟩, L, rfl, hL⟩ := h
    exact ⟨N, L, rfl, hN, hL⟩
theorem opens_cls : Opens enc Try.prog W 32 (fun r => ∃ l : List Cl, r = [aCls l] ∧ okLC l = true) :=
  (opens_slice (sz := 2) Try.underlying32 (by kernel_rfl) (by omega) opens_cl).mono fun r h => by
    obtain ⟨ys, rfl, hl, hy⟩ := h
    obtain ⟨l, rfl, hx⟩ := cls_ex ys hy
    refine ⟨l, rfl, ?_⟩
    simp only [okLC, hx, Bool.true_and, decide_eq_true_eq]
    simpa [AMax] using hl
theorem arg_cls {base : Nat} {sp : Nat → Bool} {held : Bool} {v : Value} {d : DataW H} {p : List MemPlace} (hval : Value.okWide Try.prog W .any base 32 v) (h : DataW.Trod enc Try.prog W 0 sp held 32 v d p) :
    ∃ l, Rv (G0 (allS W)) (aCls l) v ∧ okLC l = true := by
  obtain ⟨a, h1, x, h2, h3⟩ := arg_one (cells_slice Try.underlying32 hval) h opens_cls
  cases h2
  exact ⟨x, h1, h3⟩
theorem opens_bytes : Opens enc Try.prog W 43 (fun r => ∃ xs, r = [aB xs] ∧ okB xs = true ∧ xs.length ≤ 9223372036854775807) :=
  (opens_slice (sz := 1) Try.underlying43 (by kernel_rfl) (by omega) (opens_int Try.underlying5)).mono fun r h => by
    obtain ⟨ys, rfl, hl, hy⟩ := h
    obtain ⟨xs, rfl, hx⟩ := bytes_ex ys hy
    refine ⟨xs, rfl, hx, ?_⟩
    simpa [AMax] using hl
theorem arg_bytes {base : Nat} {sp : Nat → Bool} {held : Bool} {v : Value} {d : DataW H} {p : List MemPlace} (hval : Value.okWide Try.prog W .any base 43 v) (h : DataW.Trod enc Try.prog W 0 sp held 43 v d p) :
    ∃ xs, Rv (G0 (allS W)) (aB xs) v ∧ okB xs = true ∧ xs.length ≤ 9223372036854775807 := by
  obtain ⟨a, h1, x, h2, h3⟩ := arg_one (cells_slice Try.underlying43 hval) h opens_bytes
  cases h2
  exact ⟨x, h1, h3⟩
end
theorem lightC_ok {ts cs : List Int} (h1 : okIL ts = true) (h2 : okIL cs = true) (h : lightC ts cs = true) : okInts ts = true ∧ okInts cs = true ∧ ts.length ≤ 200 ∧ cs.length ≤ 300 := by
  simp only [lightC, Bool.and_eq_true, decide_eq_true_eq] at h
  exact ⟨okInts_il h1 (by omega), okInts_il h2 (by omega), h.1, h.2⟩
@[simp] def g_trWorks : List AV → Option (AV × Bool)
  | [] => if (true) = true then some (.v (.bool true), false) else none
  | _ => none
theorem e_trWorks : EntOk Try.prog 15 g_trWorks := ent_pure (by kernel_rfl) fun args r fr h => by
  unfold g_trWorks at h
  split at h
  · split at h
    · rename_i hc
      cases h
      exact ⟨FnPure.cov (works_p) .nil, rfl⟩
    · cases h
  · cases h

def l113 : List (FuncId × (List AV → Option (AV × Bool))) :=
  (15, g_trWorks) :: (17, g_copiedL) :: (24, g_sameCls) :: l112
theorem l113_ok : ∀ p ∈ l113, EntOk Try.prog p.1 p.2 := ent_cons e_trWorks (ent_cons e_copiedL (ent_cons e_sameCls (l112_ok)))
def PT113 : PTab := tab l113
theorem PT113_ok : PTok Try.prog PT113 := tab_ok l113_ok
@[simp] theorem PT113_litVar : PT113 32 = g_litVar := rfl
@[simp] theorem PT113_litValid : PT113 77 = g_litValid := rfl
@[simp] theorem PT113_contains : PT113 50 = g_contains := rfl
@[simp] theorem PT113_check : PT113 46 = g_check := rfl
@[simp] theorem PT113_with : PT113 33 = g_with := rfl
@[simp] theorem PT113_without : PT113 31 = g_without := rfl
@[simp] theorem PT113_all : PT113 30 = g_all := rfl
@[simp] theorem PT113_rValid : PT113 71 = g_rValid := rfl
@[simp] theorem PT113_rCheck : PT113 42 = g_rCheck := rfl
@[simp] theorem PT113_litvalid : PT113 85 = g_litvalid := rfl
@[simp] theorem PT113_opposite : PT113 87 = g_opposite := rfl
@[simp] theorem PT113_clone : PT113 99 = g_clone := rfl
@[simp] theorem PT113_order : PT113 86 = g_order := rfl
@[simp] theorem PT113_term : PT113 69 = g_term := rfl
@[simp] theorem PT113_clause : PT113 57 = g_clause := rfl
@[simp] theorem PT113_equal : PT113 61 = g_equal := rfl
@[simp] theorem PT113_distinct : PT113 60 = g_distinct := rfl
@[simp] theorem PT113_normal : PT113 27 = g_normal := rfl
@[simp] theorem PT113_rContains : PT113 74 = g_rContains := rfl
@[simp] theorem PT113_rSameInts : PT113 52 = g_rSameInts := rfl
@[simp] theorem PT113_rAbs : PT113 114 = g_rAbs := rfl
@[simp] theorem PT113_rBefore : PT113 97 = g_rBefore := rfl
@[simp] theorem PT113_rSorted : PT113 75 = g_rSorted := rfl
@[simp] theorem PT113_rPut : PT113 76 = g_rPut := rfl
@[simp] theorem PT113_rNormal : PT113 45 = g_rNormal := rfl
@[simp] theorem PT113_place : PT113 62 = g_place := rfl
@[simp] theorem PT113_vHas : PT113 34 = g_vHas := rfl
@[simp] theorem PT113_vMinus : PT113 90 = g_vMinus := rfl
@[simp] theorem PT113_vCut : PT113 29 = g_vCut := rfl
@[simp] theorem PT113_vSub : PT113 65 = g_vSub := rfl
@[simp] theorem PT113_litHolds : PT113 64 = g_litHolds := rfl
@[simp] theorem PT113_litAny : PT113 36 = g_litAny := rfl
@[simp] theorem PT113_thEval : PT113 37 = g_thEval := rfl
@[simp] theorem PT113_rSame : PT113 22 = g_rSame := rfl
@[simp] theorem PT113_rTerm : PT113 73 = g_rTerm := rfl
@[simp] theorem PT113_thVars : PT113 35 = g_thVars := rfl
@[simp] theorem PT113_light : PT113 13 = g_light := rfl
@[simp] theorem PT113_r2Enc : PT113 26 = g_r2Enc := rfl
@[simp] theorem PT113_trEnc : PT113 25 = g_trEnc := rfl
@[simp] theorem PT113_r2Bytes : PT113 56 = g_r2Bytes := rfl
@[simp] theorem PT113_r2Num : PT113 84 = g_r2Num := rfl
@[simp] theorem PT113_r2Formed : PT113 43 = g_r2Formed := rfl
@[simp] theorem PT113_r2In : PT113 51 = g_r2In := rfl
@[simp] theorem PT113_r2Same : PT113 23 = g_r2Same := rfl
@[simp] theorem PT113_r2Var : PT113 72 = g_r2Var := rfl
@[simp] theorem PT113_trLight : PT113 14 = g_trLight := rfl
@[simp] theorem PT113_trGood : PT113 47 = g_trGood := rfl
@[simp] theorem PT113_trWorks : PT113 15 = g_trWorks := rfl
@[simp] theorem PT113_copiedL : PT113 17 = g_copiedL := rfl
@[simp] theorem PT113_sameCls : PT113 24 = g_sameCls := rfl
end Go.Proofs.Ythdjgcjpolpgdaa
