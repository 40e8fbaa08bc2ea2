/- The table of the laws of chapter 17; no condition. -/
import Derived.Test.YtafikekndefjcaaDoorKr
import Derived.Test.YtafikekndefjcaaDoorCp
import Derived.Test.YtafikekndefjcaaDoorWk17
namespace Go.Proofs.YtafikekndefjcaaDoor
set_option linter.unusedVariables false
set_option linter.unusedSimpArgs false
set_option linter.unusedSectionVars false
open Go.RowKit
set_option maxRecDepth 100000
theorem okB_key {U : List (List Int)} (h : ∀ c ∈ U, c.length ≤ 128 ∧ ∀ l ∈ c, litOk l 128 = true) : okB (keyL U) = true := by
  unfold okB
  rw [List.all_eq_true]
  intro x hx
  unfold keyL at hx
  obtain ⟨c, hc, hx⟩ := List.mem_flatMap.1 hx
  obtain ⟨h1, h2⟩ := h c hc
  simp only [Bool.and_eq_true, decide_eq_true_eq]
  rcases List.mem_cons.1 hx with rfl | hx
  · omega
  · obtain ⟨l, hl, rfl⟩ := List.mem_map.1 hx
    exact litByte_range (h2 l hl)
theorem litOk_up {l n : Int} (h : litOk l n = true) : litOk l 128 = true := by
  have := litVar_range l
  unfold litOk at *
  simp only [Bool.and_eq_true, decide_eq_true_eq] at *
  omega
theorem okB_check {n : Int} {U : List (List Int)} (h : checkT n U = 0) : okB (keyL U) = true := okB_key fun c hc => by
  obtain ⟨_, _, _, h3⟩ := checkT_ok h
  exact ⟨(h3 c hc).1, fun l hl => litOk_up ((h3 c hc).2 l hl)⟩
@[simp] def g_works17 : List AV → Option (AV × Bool)
  | [] => if (true) = true then some (.v (.bool true), false) else none
  | _ => none
theorem e_works17 : EntOk Tryd.prog 13 g_works17 := ent_pure (by kernel_rfl) fun args r fr h => by
  unfold g_works17 at h
  split at h
  · split at h
    · rename_i hc
      cases h
      exact ⟨FnPure.cov (works_p) .nil, rfl⟩
    · cases h
  · cases h

@[simp] def g_copy : List AV → Option (AV × Bool)
  | [.agg [.v (.int .i64 N), a0]] => (match toRows a0 with | some L => if (okI N && okRows L) = true then some (aTh N L, false) else none | none => none)
  | _ => none
theorem e_copy : EntOk Tryd.prog 14 g_copy := ent_pure (by kernel_rfl) fun args r fr h => by
  unfold g_copy at h
  split at h
  · rename_i N a0
    split at h
    · rename_i L t0
      split at h
      · rename_i hc
        simp only [Bool.and_eq_true] at hc
        obtain ⟨m0, o0⟩ := hc
        cases h
        exact ⟨FnPure.cov (copy_p N L m0 o0) (.cons (cov_th _ (cov_rows t0)) .nil), rfl⟩
      · cases h
    · cases h
  · cases h

@[simp] def g_bEq : List AV → Option (AV × Bool)
  | [a0, a1] => (match toB a0 with | some xs => (match toB a1 with | some ys => if (okB xs && okB ys) = true then some (.v (.bool (decide (xs = ys))), false) else none | none => none) | none => none)
  | _ => none
theorem e_bEq : EntOk Tryd.prog 21 g_bEq := ent_pure (by kernel_rfl) fun args r fr h => by
  unfold g_bEq at h
  split at h
  · rename_i a0 a1
    split at h
    · rename_i xs t0
      split at h
      · rename_i ys t1
        split at h
        · rename_i hc
          simp only [Bool.and_eq_true] at hc
          obtain ⟨o0, o1⟩ := hc
          cases h
          exact ⟨FnPure.cov (bytesEq_p xs ys o0 o1) (.cons (cov_B t0) (.cons (cov_B t1) .nil)), rfl⟩
        · cases h
      · cases h
    · cases h
  · cases h

@[simp] def g_cKey : List AV → Option (AV × Bool)
  | [.agg [.v (.int .i64 N), a0]] => (match toRows a0 with | some L => if (okI N && okRows L) = true then some (keyA N L, false) else none | none => none)
  | _ => none
theorem e_cKey : EntOk Tryd.prog 19 g_cKey := ent_pure (by kernel_rfl) fun args r fr h => by
  unfold g_cKey at h
  split at h
  · rename_i N a0
    split at h
    · rename_i L t0
      split at h
      · rename_i hc
        simp only [Bool.and_eq_true] at hc
        obtain ⟨m0, o0⟩ := hc
        cases h
        exact ⟨FnPure.cov (key_p N L m0 o0) (.cons (cov_th _ (cov_rows t0)) .nil), rfl⟩
      · cases h
    · cases h
  · cases h

@[simp] def g_rKey : List AV → Option (AV × Bool)
  | [.agg [.v (.int .i64 N), a0]] => (match toRows a0 with | some L => if (okI N && okRows L) = true then some (keyA N L, false) else none | none => none)
  | _ => none
theorem e_rKey : EntOk Tryd.prog 20 g_rKey := ent_pure (by kernel_rfl) fun args r fr h => by
  unfold g_rKey at h
  split at h
  · rename_i N a0
    split at h
    · rename_i L t0
      split at h
      · rename_i hc
        simp only [Bool.and_eq_true] at hc
        obtain ⟨m0, o0⟩ := hc
        cases h
        exact ⟨FnPure.cov (rKey_p N L m0 o0) (.cons (cov_th _ (cov_rows t0)) .nil), rfl⟩
      · cases h
    · cases h
  · cases h

def l83 : List (FuncId × (List AV → Option (AV × Bool))) :=
  (13, g_works17) :: (14, g_copy) :: (21, g_bEq) :: (19, g_cKey) :: (20, g_rKey) :: l82
theorem l83_ok : ∀ p ∈ l83, EntOk Tryd.prog p.1 p.2 := ent_cons e_works17 (ent_cons e_copy (ent_cons e_bEq (ent_cons e_cKey (ent_cons e_rKey (l82_ok)))))
def PT83 : PTab := tab l83
theorem PT83_ok : PTok Tryd.prog PT83 := tab_ok l83_ok
@[simp] theorem PT83_litVar : PT83 37 = g_litVar := rfl
@[simp] theorem PT83_litValid : PT83 60 = g_litValid := rfl
@[simp] theorem PT83_check : PT83 41 = g_check := rfl
@[simp] theorem PT83_with : PT83 55 = g_with := rfl
@[simp] theorem PT83_all : PT83 43 = g_all := rfl
@[simp] theorem PT83_rValid : PT83 75 = g_rValid := rfl
@[simp] theorem PT83_rHas : PT83 40 = g_rHas := rfl
@[simp] theorem PT83_rCheck : PT83 56 = g_rCheck := rfl
@[simp] theorem PT83_litvalid : PT83 66 = g_litvalid := rfl
@[simp] theorem PT83_opposite : PT83 68 = g_opposite := rfl
@[simp] theorem PT83_clone : PT83 81 = g_clone := rfl
@[simp] theorem PT83_order : PT83 67 = g_order := rfl
@[simp] theorem PT83_clause : PT83 48 = g_clause := rfl
@[simp] theorem PT83_equal : PT83 52 = g_equal := rfl
@[simp] theorem PT83_distinct : PT83 51 = g_distinct := rfl
@[simp] theorem PT83_normal : PT83 34 = g_normal := rfl
@[simp] theorem PT83_rContains : PT83 76 = g_rContains := rfl
@[simp] theorem PT83_rSameInts : PT83 18 = g_rSameInts := rfl
@[simp] theorem PT83_rAbs : PT83 59 = g_rAbs := rfl
@[simp] theorem PT83_rBefore : PT83 77 = g_rBefore := rfl
@[simp] theorem PT83_rSorted : PT83 57 = g_rSorted := rfl
@[simp] theorem PT83_rPut : PT83 58 = g_rPut := rfl
@[simp] theorem PT83_rNormal : PT83 38 = g_rNormal := rfl
@[simp] theorem PT83_place : PT83 74 = g_place := rfl
@[simp] theorem PT83_vHas : PT83 79 = g_vHas := rfl
@[simp] theorem PT83_vMinus : PT83 61 = g_vMinus := rfl
@[simp] theorem PT83_vSub : PT83 42 = g_vSub := rfl
@[simp] theorem PT83_litHolds : PT83 64 = g_litHolds := rfl
@[simp] theorem PT83_litAny : PT83 44 = g_litAny := rfl
@[simp] theorem PT83_thEval : PT83 24 = g_thEval := rfl
@[simp] theorem PT83_rSame : PT83 17 = g_rSame := rfl
@[simp] theorem PT83_thVars : PT83 36 = g_thVars := rfl
@[simp] theorem PT83_rVars : PT83 39 = g_rVars := rfl
@[simp] theorem PT83_light : PT83 12 = g_light := rfl
@[simp] theorem PT83_vList : PT83 35 = g_vList := rfl
@[simp] theorem PT83_cSmall : PT83 15 = g_cSmall := rfl
@[simp] theorem PT83_rSmall : PT83 16 = g_rSmall := rfl
@[simp] theorem PT83_works17 : PT83 13 = g_works17 := rfl
@[simp] theorem PT83_copy : PT83 14 = g_copy := rfl
@[simp] theorem PT83_bEq : PT83 21 = g_bEq := rfl
@[simp] theorem PT83_cKey : PT83 19 = g_cKey := rfl
@[simp] theorem PT83_rKey : PT83 20 = g_rKey := rfl
end Go.Proofs.YtafikekndefjcaaDoor
