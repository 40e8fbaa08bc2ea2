/- The table of PartsAlone; no condition. -/
import Derived.Test.YtekeidhndlnghaaAp16
import Derived.Test.YtekeidhndlnghaaEk16b
namespace Go.Proofs.Ytekeidhndlnghaa
set_option linter.unusedVariables false
set_option linter.unusedSimpArgs false
set_option linter.unusedSectionVars false
open Go.RowKit
set_option maxRecDepth 100000
theorem rAlone_q (N : Int) (L : List (List Int)) (ts cs : List Int) (hN : okI N = true) (hL : okRows L = true) (ht : okInts ts = true) (hcs : okInts cs = true) (hk : decide (cs.length ≤ 4096) = true) : FnPure Try.prog 18 [aTh N L, aInts ts, aInts cs] (rAloneA N L ts cs) :=
  rAlone_p N L ts cs hN hL ht hcs (of_decide_eq_true hk) fun hv => by
    obtain ⟨_, _, h1, h2⟩ := checkT_ok (valid_check hv)
    exact ⟨List.all_eq_true.2 fun c hc => okL_iff.2 fun y hy => by have := litOk_range ((h2 c hc).2 y hy); omega, h1⟩
@[simp] def g_r6Alone : List AV → Option (AV × Bool)
  | [.agg [.v (.int .i64 N), a0], a1, a2] => (match toRows a0 with | some L => (match toInts a1 with | some ts => (match toInts a2 with | some cs => if (okI N && okRows L && okInts ts && okInts cs && decide (cs.length ≤ 4096)) = true then some (rAloneA N L ts cs, false) else none | none => none) | none => none) | none => none)
  | _ => none
theorem e_r6Alone : EntOk Try.prog 18 g_r6Alone := ent_pure (by kernel_rfl) fun args r fr h => by
  unfold g_r6Alone at h
  split at h
  · rename_i N a0 a1 a2
    split at h
    · rename_i L t0
      split at h
      · rename_i ts t1
        split at h
        · rename_i cs t2
          split at h
          · rename_i hc
            simp only [Bool.and_eq_true] at hc
            obtain ⟨⟨⟨⟨m0, o0⟩, o1⟩, o2⟩, hk⟩ := hc
            cases h
            exact ⟨FnPure.cov (rAlone_q N L ts cs m0 o0 o1 o2 hk) (.cons (cov_th _ (cov_rows t0)) (.cons (cov_ints t1) (.cons (cov_ints t2) .nil))), rfl⟩
          · cases h
        · cases h
      · cases h
    · cases h
  · cases h

@[simp] def g_works6 : List AV → Option (AV × Bool)
  | [] => if (true) = true then some (.v (.bool true), false) else none
  | _ => none
theorem e_works6 : EntOk Try.prog 11 g_works6 := ent_pure (by kernel_rfl) fun args r fr h => by
  unfold g_works6 at h
  split at h
  · split at h
    · rename_i hc
      cases h
      exact ⟨FnPure.cov (works_p) .nil, rfl⟩
    · cases h
  · cases h

def l88 : List (FuncId × (List AV → Option (AV × Bool))) :=
  (18, g_r6Alone) :: (11, g_works6) :: l87
theorem l88_ok : ∀ p ∈ l88, EntOk Try.prog p.1 p.2 := ent_cons e_r6Alone (ent_cons e_works6 (l87_ok))
def PT88 : PTab := tab l88
theorem PT88_ok : PTok Try.prog PT88 := tab_ok l88_ok
@[simp] theorem PT88_litVar : PT88 31 = g_litVar := rfl
@[simp] theorem PT88_litValid : PT88 57 = g_litValid := rfl
@[simp] theorem PT88_contains : PT88 50 = g_contains := rfl
@[simp] theorem PT88_check : PT88 47 = g_check := rfl
@[simp] theorem PT88_with : PT88 33 = g_with := rfl
@[simp] theorem PT88_without : PT88 30 = g_without := rfl
@[simp] theorem PT88_all : PT88 29 = g_all := rfl
@[simp] theorem PT88_rValid : PT88 55 = g_rValid := rfl
@[simp] theorem PT88_rHas : PT88 56 = g_rHas := rfl
@[simp] theorem PT88_rHolds : PT88 45 = g_rHolds := rfl
@[simp] theorem PT88_rAssign : PT88 44 = g_rAssign := rfl
@[simp] theorem PT88_rCheck : PT88 43 = g_rCheck := rfl
@[simp] theorem PT88_rEval : PT88 23 = g_rEval := rfl
@[simp] theorem PT88_litvalid : PT88 58 = g_litvalid := rfl
@[simp] theorem PT88_opposite : PT88 60 = g_opposite := rfl
@[simp] theorem PT88_clone : PT88 65 = g_clone := rfl
@[simp] theorem PT88_order : PT88 59 = g_order := rfl
@[simp] theorem PT88_term : PT88 48 = g_term := rfl
@[simp] theorem PT88_pRest : PT88 32 = g_pRest := rfl
@[simp] theorem PT88_pChk : PT88 27 = g_pChk := rfl
@[simp] theorem PT88_r6Valid : PT88 34 = g_r6Valid := rfl
@[simp] theorem PT88_r6Left : PT88 22 = g_r6Left := rfl
@[simp] theorem PT88_r6Rest : PT88 40 = g_r6Rest := rfl
@[simp] theorem PT88_r6Same : PT88 19 = g_r6Same := rfl
@[simp] theorem PT88_few6 : PT88 10 = g_few6 := rfl
@[simp] theorem PT88_r6Alone : PT88 18 = g_r6Alone := rfl
@[simp] theorem PT88_works6 : PT88 11 = g_works6 := rfl
end Go.Proofs.Ytekeidhndlnghaa
