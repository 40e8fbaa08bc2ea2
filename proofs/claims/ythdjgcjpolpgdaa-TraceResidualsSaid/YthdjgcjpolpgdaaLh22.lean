/- TraceResiduals: claims as arguments, the table; names of rows that a call returned; no condition. -/
import Derived.Test.YthdjgcjpolpgdaaLf22
import Derived.Test.YthdjgcjpolpgdaaCc22
import Derived.Test.YthdjgcjpolpgdaaRo
import Derived.Test.YthdjgcjpolpgdaaLo
import Derived.Test.YthdjgcjpolpgdaaCp
import Derived.Test.YthdjgcjpolpgdaaAm23
import Derived.Test.YthdjgcjpolpgdaaCvG
import Derived.Test.YthdjgcjpolpgdaaWk22
namespace Go.Proofs.Ythdjgcjpolpgdaa
set_option linter.unusedVariables false
set_option linter.unusedSimpArgs false
set_option linter.unusedSectionVars false
open Go.RowKit
set_option maxRecDepth 100000
section
variable {H : Type} {enc : TypeId × Value → H} {W : World}
theorem opens_cl : Opens enc Try.prog W 27 (fun r => ∃ ts cs, r = [aInts ts, aInts cs] ∧ okIL ts = true ∧ okIL cs = true) :=
  (opens_st2 (t0 := 25) (t1 := 25) (c0 := 1) (c1 := 1) Try.underlying27 rfl rfl rfl rfl (by kernel_rfl) (by kernel_rfl) (by kernel_rfl) opens_ints opens_ints).mono fun r h => by
    obtain ⟨_, _, rfl, ⟨N, rfl, hN⟩, L, rfl, hL⟩ := h
    exact ⟨N, L, rfl, hN, hL⟩
theorem arg_cl {base : Nat} {sp : Nat → Bool} {held : Bool} {v : Value} {d : DataW H} {p : List MemPlace} (hval : Value.okWide Try.prog W .any base 27 v) (h : DataW.Trod enc Try.prog W 0 sp held 27 v d p) :
    ∃ ts cs, Rv (G0 (allS W)) (aCl ts cs) v ∧ okIL ts = true ∧ okIL cs = true := by
  obtain ⟨row, h1, N, L, rfl, h2, h3⟩ := arg_agg (.inl ⟨_, Try.underlying27⟩) hval h opens_cl
  exact ⟨N, L, h1, h2, h3⟩
end
theorem lightC_ok {ts cs : List Int} (h1 : okIL ts = true) (h2 : okIL cs = true) (h : lightC ts cs = true) : okInts ts = true ∧ okInts cs = true ∧ ts.length ≤ 200 ∧ cs.length ≤ 300 := by
  simp only [lightC, Bool.and_eq_true, decide_eq_true_eq] at h
  exact ⟨okInts_il h1 (by omega), okInts_il h2 (by omega), h.1, h.2⟩
@[simp] def g_trWorks : List AV → Option (AV × Bool)
  | [] => if (true) = true then some (.v (.bool true), false) else none
  | _ => none
theorem e_trWorks : EntOk Try.prog 15 g_trWorks := ent_pure (by kernel_rfl) fun args r fr h => by
  unfold g_trWorks at h
  split at h
  · split at h
    · rename_i hc
      cases h
      exact ⟨FnPure.cov (works_p) .nil, rfl⟩
    · cases h
  · cases h

@[simp] def g_copy : List AV → Option (AV × Bool)
  | [.agg [.v (.int .i64 N), a0]] => (match toRows a0 with | some L => if (okI N && okRows L) = true then some (aTh N L, false) else none | none => none)
  | _ => none
theorem e_copy : EntOk Try.prog 16 g_copy := ent_pure (by kernel_rfl) fun args r fr h => by
  unfold g_copy at h
  split at h
  · rename_i N a0
    split at h
    · rename_i L t0
      split at h
      · rename_i hc
        simp only [Bool.and_eq_true] at hc
        obtain ⟨m0, o0⟩ := hc
        cases h
        exact ⟨FnPure.cov (copy_p N L m0 o0) (.cons (cov_th _ (cov_rows t0)) .nil), rfl⟩
      · cases h
    · cases h
  · cases h

def l75 : List (FuncId × (List AV → Option (AV × Bool))) :=
  (15, g_trWorks) :: (16, g_copy) :: (17, g_copied) :: (24, g_sameClaims) :: (21, g_r2Left) :: (19, g_r2Res) :: l72
theorem l75_ok : ∀ p ∈ l75, EntOk Try.prog p.1 p.2 := ent_cons e_trWorks (ent_cons e_copy (ent_cons e_copied (ent_cons e_sameClaims (ent_cons e_r2Left (ent_cons e_r2Res (l72_ok))))))
def PT75 : PTab := tab l75
theorem PT75_ok : PTok Try.prog PT75 := tab_ok l75_ok
@[simp] theorem PT75_litVar : PT75 32 = g_litVar := rfl
@[simp] theorem PT75_litValid : PT75 77 = g_litValid := rfl
@[simp] theorem PT75_contains : PT75 50 = g_contains := rfl
@[simp] theorem PT75_check : PT75 46 = g_check := rfl
@[simp] theorem PT75_with : PT75 33 = g_with := rfl
@[simp] theorem PT75_without : PT75 31 = g_without := rfl
@[simp] theorem PT75_all : PT75 30 = g_all := rfl
@[simp] theorem PT75_rValid : PT75 71 = g_rValid := rfl
@[simp] theorem PT75_rCheck : PT75 42 = g_rCheck := rfl
@[simp] theorem PT75_litvalid : PT75 85 = g_litvalid := rfl
@[simp] theorem PT75_opposite : PT75 87 = g_opposite := rfl
@[simp] theorem PT75_clone : PT75 99 = g_clone := rfl
@[simp] theorem PT75_order : PT75 86 = g_order := rfl
@[simp] theorem PT75_term : PT75 69 = g_term := rfl
@[simp] theorem PT75_clause : PT75 57 = g_clause := rfl
@[simp] theorem PT75_equal : PT75 61 = g_equal := rfl
@[simp] theorem PT75_distinct : PT75 60 = g_distinct := rfl
@[simp] theorem PT75_normal : PT75 27 = g_normal := rfl
@[simp] theorem PT75_rContains : PT75 74 = g_rContains := rfl
@[simp] theorem PT75_rSameInts : PT75 52 = g_rSameInts := rfl
@[simp] theorem PT75_rAbs : PT75 114 = g_rAbs := rfl
@[simp] theorem PT75_rBefore : PT75 97 = g_rBefore := rfl
@[simp] theorem PT75_rSorted : PT75 75 = g_rSorted := rfl
@[simp] theorem PT75_rPut : PT75 76 = g_rPut := rfl
@[simp] theorem PT75_rNormal : PT75 45 = g_rNormal := rfl
@[simp] theorem PT75_place : PT75 62 = g_place := rfl
@[simp] theorem PT75_vHas : PT75 34 = g_vHas := rfl
@[simp] theorem PT75_vMinus : PT75 90 = g_vMinus := rfl
@[simp] theorem PT75_vCut : PT75 29 = g_vCut := rfl
@[simp] theorem PT75_vSub : PT75 65 = g_vSub := rfl
@[simp] theorem PT75_litHolds : PT75 64 = g_litHolds := rfl
@[simp] theorem PT75_litAny : PT75 36 = g_litAny := rfl
@[simp] theorem PT75_thEval : PT75 37 = g_thEval := rfl
@[simp] theorem PT75_rSame : PT75 22 = g_rSame := rfl
@[simp] theorem PT75_rTerm : PT75 73 = g_rTerm := rfl
@[simp] theorem PT75_thVars : PT75 35 = g_thVars := rfl
@[simp] theorem PT75_light : PT75 13 = g_light := rfl
@[simp] theorem PT75_given : PT75 41 = g_given := rfl
@[simp] theorem PT75_trLight : PT75 14 = g_trLight := rfl
@[simp] theorem PT75_trGood : PT75 47 = g_trGood := rfl
@[simp] theorem PT75_trLeft : PT75 20 = g_trLeft := rfl
@[simp] theorem PT75_trRes : PT75 18 = g_trRes := rfl
@[simp] theorem PT75_r2In : PT75 51 = g_r2In := rfl
@[simp] theorem PT75_r2Same : PT75 23 = g_r2Same := rfl
@[simp] theorem PT75_r2Var : PT75 72 = g_r2Var := rfl
@[simp] theorem PT75_r2Formed : PT75 43 = g_r2Formed := rfl
@[simp] theorem PT75_rGiven : PT75 44 = g_rGiven := rfl
@[simp] theorem PT75_trWorks : PT75 15 = g_trWorks := rfl
@[simp] theorem PT75_copy : PT75 16 = g_copy := rfl
@[simp] theorem PT75_copied : PT75 17 = g_copied := rfl
@[simp] theorem PT75_sameClaims : PT75 24 = g_sameClaims := rfl
@[simp] theorem PT75_r2Left : PT75 21 = g_r2Left := rfl
@[simp] theorem PT75_r2Res : PT75 19 = g_r2Res := rfl
@[simp] theorem toRows_nilv : toRows (.v (.slice none 0 0)) = some [] := rfl
structure NmT (Z : List (List Int)) (NM : List Nat) (F : Nat → Option AObj) : Prop where
  mem : ∀ k, k ∈ NM ↔ k = 1000 ∨ (1001 ≤ k ∧ k < 1001 + Z.length)
  f0 : F 1000 = some ⟨25, 1, refsI 1001 Z⟩
  fj : ∀ j, j < Z.length → F (1001 + j) = some (obI (Z.getD j []))
theorem shT (Z : List (List Int)) : shO 1000 (objT Z) = (1000, ⟨25, 1, refsI 1001 Z⟩) :: fam 1001 Z := by
  unfold objT fam
  simp only [shO_cons, shO_famI, ren_refsI_add]
theorem nmT_ex (Z : List (List Int)) : ∃ NM F, NmT Z NM F := by
  refine ⟨1000 :: List.range' 1001 Z.length, fun k => lk (shO 1000 (objT Z)) k, fun k => ?_, ?_, fun j hj => ?_⟩
  · rw [List.mem_cons, List.mem_range'_1]
  · rw [shT]; simp [lk]
  · rw [shT]; simp only [lk]; rw [if_neg (by omega), lk_fam_add hj]
theorem NmT.low {Z : List (List Int)} {NM : List Nat} {F : Nat → Option AObj} (h : NmT Z NM F) {k : Nat} (hk : k < 1000) : k ∉ NM := fun hm => by have := (h.mem k).1 hm; omega
theorem NmT.ids {Z : List (List Int)} {NM : List Nat} {F : Nat → Option AObj} (h : NmT Z NM F) (k : Nat) : k ∈ NM ↔ k ∈ (idsT Z).map (· + 1000) := by
  rw [h.mem, List.mem_map]
  unfold idsT
  constructor
  · rintro (rfl | hk)
    · exact ⟨0, by simp, rfl⟩
    · exact ⟨k - 1000, by rw [List.mem_cons, List.mem_range'_1]; omega, by omega⟩
  · rintro ⟨i, hi, rfl⟩
    rw [List.mem_cons, List.mem_range'_1] at hi
    omega
theorem NmT.fk {Z : List (List Int)} {NM : List Nat} {F : Nat → Option AObj} (h : NmT Z NM F) : ∀ k ∈ NM, F k = lk (shO 1000 (objT Z)) k ∧ lk (shO 1000 (objT Z)) k ≠ none := fun k hk => by
  rw [shT]
  rcases (h.mem k).1 hk with rfl | hk
  · rw [h.f0]; simp [lk]
  · obtain ⟨j, rfl⟩ : ∃ j, k = 1001 + j := ⟨k - 1001, by omega⟩
    rw [h.fj j (by omega)]
    simp only [lk]
    rw [if_neg (by omega), lk_fam_add (by omega)]
    exact ⟨rfl, by simp⟩
theorem NmT.no {Z : List (List Int)} {NM : List Nat} {F : Nat → Option AObj} (h : NmT Z NM F) : ∀ k, k ∉ NM → lk (shO 1000 (objT Z)) k = none := fun k hk => by
  rw [shT]
  have : ¬ (k = 1000 ∨ (1001 ≤ k ∧ k < 1001 + Z.length)) := fun hh => hk ((h.mem k).2 hh)
  simp only [lk]
  rw [if_neg (by omega), lk_famI, if_neg (by omega)]
end Go.Proofs.Ythdjgcjpolpgdaa
