/- An abstract machine for the text, part thirty-four: regions of open order, by what holds behind any set of their operations; plain lemmas over any program; no condition. -/
import Derived.Test.YtafikekndefjcaaDoorAm31
namespace Go.Proofs.YtafikekndefjcaaDoor
set_option linter.unusedVariables false
set_option linter.unusedSimpArgs false
set_option linter.unusedSectionVars false
open Go.RowKit
section oo
variable {P : Program} {TT : TTab} {PT : PTab} {B : Base} {σ : AS} {Q : Exit → AS → Prop} {ops : Array Oper}
theorem opIn_mono {F : Fence} {n : Nat} {o : Oper} {a : Act} {w : World} {K K' : Act → World → Prop} {Q Q' : Exit → Act → World → Prop} (h : ∀ a w, K a w → K' a w) (hq : ∀ e a w, Q e a w → e ≠ .normal → Q' e a w) (hh : o.wpIn F n P a w K Q) : o.wpIn F n P a w K' Q' := by
  unfold Oper.wpIn at *
  refine ⟨hh.1, ?_⟩
  have hh := hh.2
  have ho : LetsOut Q → LetsOut Q' := fun h => by
    unfold LetsOut at *
    first
      | exact fun a w => hq _ _ _ (h a w) (by simp)
      | (obtain ⟨a, w, h⟩ := h; exact ⟨a, w, hq _ _ _ h (by simp)⟩)
  generalize (o.semAt F.round a.eval).run P w = r at *
  cases r with
  | ok x w' =>
    cases x <;> simp only [Oper.uponIn] at hh ⊢ <;>
      first
        | exact h _ _ hh
        | exact ⟨hh.1, CallsIn.mono hh.2 (fun e w'' he => by cases e <;> first | exact h _ _ he | exact hq _ _ _ he (by simp) | exact ho he)⟩
        | exact ⟨hh.1, RowsIn.mono hh.2 (fun _ _ he => h _ _ he)⟩
        | exact ⟨hh.1, RoundIn.mono hh.2 (fun e w'' he => by cases e <;> first | exact h _ _ he | exact hq _ _ _ he (by simp) | exact ho he)⟩
  | halt x w' => cases x <;> simp only [Oper.uponIn] at hh ⊢ <;> first | exact hq _ _ _ hh (by simp) | exact hh
theorem s_drawI (hP : P.follows .mixedOrders = true) {id : Nat} (Inv : (Nat → Bool) → AS → Prop) (h0 : Inv (fun _ => false) σ)
    (low : ∀ (i : Nat) (o : Oper), ops[i]? = some o → ∀ e ∈ o.after, Region.binds .any e = true → e.on < i)
    (step : ∀ (d : Nat → Bool) (τ : AS) (i : Nat) (o : Oper), Inv d τ → ops[i]? = some o → d i = false → (∀ e ∈ o.after, Region.binds .any e = true → d e.on = true) → SPL P B ops [o] τ (fun e τ' => e = .normal ∧ ∀ d' : Nat → Bool, (∀ j, d' j = (d j || j == i)) → Inv d' τ'))
    (hend : ∀ d τ, (∀ i, i < ops.size → d i = true) → Inv d τ → Q .normal τ) : SP P B (.region id ops true) σ Q := fun D G w a hr => by
  refine wpIn_region_any hP ?_
  have key : ∀ (fuel : Nat) (listed : Array Bool), listed.size = ops.size → ((List.range ops.size).filter fun i => !listed.getD i false).length ≤ fuel →
      ∀ {D : List Nat} {G : Gh} {w : World} {a : Act} {τ : AS}, R (B.d D) G τ w a → Inv (fun i => listed.getD i false) τ → wpAnyIn (FR B.ro) 0 P .any ops (Post B Q) fuel listed a w := by
    have hready : ∀ listed : Array Bool, listed.size = ops.size → Region.ready .any ops listed = [] → ∀ i, i < ops.size → listed.getD i false = true := fun listed hs hr i => by
      induction i using Nat.strongRecOn with
      | _ i ih =>
        intro hi
        cases hl : listed.getD i false
        · exfalso
          have hm : i ∈ Region.ready .any ops listed := by
            unfold Region.ready
            rw [List.mem_filter]
            refine ⟨List.mem_range.2 hi, ?_⟩
            have h1 : listed.getD i true = false := by
              have : i < listed.size := by omega
              simp [Array.getD_eq_getD_getElem?, Array.getElem?_eq_getElem this] at hl ⊢
              exact hl
            rw [h1, Array.getElem?_eq_getElem hi]
            simp only [Bool.not_false, Bool.true_and, Option.map_some, Option.getD_some]
            rw [Array.all_eq_true_iff_forall_mem]
            intro e he
            cases hb : Region.binds .any e
            · rfl
            · have hlt := low i ops[i] (Array.getElem?_eq_getElem hi) e he hb
              rw [ih e.on hlt (by omega)]
              rfl
          rw [hr] at hm
          cases hm
        · rfl
    intro fuel
    induction fuel with
    | zero =>
      intro listed hs hf D G w a τ hr hi
      have hall : ∀ i, i < ops.size → listed.getD i false = true := fun i hi => by
        cases hl : listed.getD i false
        · exfalso
          have hm : i ∈ (List.range ops.size).filter fun i => !listed.getD i false := List.mem_filter.2 ⟨List.mem_range.2 hi, by rw [hl]; rfl⟩
          have := List.length_pos_of_mem hm
          omega
        · rfl
      refine ⟨?_, D, G, τ, hr, hend _ τ hall hi⟩
      unfold Region.ready
      refine List.filter_eq_nil_iff.2 fun i hi => ?_
      have h1 := hall i (List.mem_range.1 hi)
      have h2 : listed.getD i true = true := by
        have : i < listed.size := by have := List.mem_range.1 hi; omega
        simp [Array.getD_eq_getD_getElem?, Array.getElem?_eq_getElem this] at h1 ⊢
        exact h1
      rw [h2]; simp
    | succ fuel ihf =>
      intro listed hs hf D G w a τ hr hi
      refine ⟨fun h => ⟨D, G, τ, hr, hend _ τ (hready listed hs h) hi⟩, fun i hm => ?_⟩
      unfold Region.ready at hm
      rw [List.mem_filter] at hm
      obtain ⟨hm1, hm2⟩ := hm
      have hlt := List.mem_range.1 hm1
      rw [Array.getElem?_eq_getElem hlt] at hm2
      simp only [Bool.and_eq_true, Option.map_some, Option.getD_some, Bool.not_eq_true'] at hm2
      obtain ⟨hm2, hm3⟩ := hm2
      rw [Array.all_eq_true_iff_forall_mem] at hm3
      have hil : i < listed.size := by omega
      have hdf : listed.getD i false = false := by
        simp [Array.getD_eq_getD_getElem?, Array.getElem?_eq_getElem hil] at hm2 ⊢
        exact hm2
      have hs1 := step _ τ i ops[i] hi (Array.getElem?_eq_getElem hlt) hdf (fun e he hb => by
        have := hm3 e he
        rw [hb] at this
        simpa using this) D G w a hr
      unfold wpListIn at hs1
      unfold wpOpIn
      rw [Array.getElem?_eq_getElem hlt]
      dsimp only
      have hnext : ∀ a' w', Post B (fun e τ' => e = .normal ∧ ∀ d' : Nat → Bool, (∀ j, d' j = (listed.getD j false || j == i)) → Inv d' τ') .normal a' w' → wpAnyIn (FR B.ro) 0 P .any ops (Post B Q) fuel (listed.setIfInBounds i true) a' w' := fun a' w' ⟨D2, G2, τ2, hr2, _, hi2⟩ => by
        have hget : ∀ j, (listed.setIfInBounds i true).getD j false = (listed.getD j false || j == i) := fun j => by
          by_cases e : i = j
          · subst e
            simp [Array.getD_eq_getD_getElem?, Array.getElem?_setIfInBounds, hil]
          · have e2 : (j == i) = false := beq_eq_false_iff_ne.2 (Ne.symm e)
            simp [Array.getD_eq_getD_getElem?, Array.getElem?_setIfInBounds, e, e2]
        refine ihf _ (by simpa using hs) ?_ hr2 (hi2 _ hget)
        have hsub : ((List.range ops.size).filter fun j => !(listed.setIfInBounds i true).getD j false) = ((List.range ops.size).filter fun j => !listed.getD j false).filter fun j => !(j == i) := by
          rw [List.filter_filter]
          congr 1
          funext j
          rw [hget]
          cases listed.getD j false <;> cases (j == i) <;> rfl
        rw [hsub]
        have hmem : i ∈ (List.range ops.size).filter fun j => !listed.getD j false := List.mem_filter.2 ⟨hm1, by rw [hdf]; rfl⟩
        have : (((List.range ops.size).filter fun j => !listed.getD j false).filter fun j => !(j == i)).length < ((List.range ops.size).filter fun j => !listed.getD j false).length := List.length_filter_lt_length_iff_exists.2 ⟨i, hmem, by simp⟩
        omega
      split
      · rename_i hw
        rw [if_pos hw] at hs1
        exact opIn_mono hnext (fun e a' w' ⟨_, _, _, _, he, _⟩ hne => absurd he hne) hs1
      · rename_i hw
        rw [if_neg hw] at hs1
        exact ⟨hs1.1, hnext _ _ hs1.2⟩
  refine key ops.size _ (by simp) (Nat.le_trans (List.length_filter_le _ _) (by simp)) hr.drew ?_
  have : (fun i => (Array.replicate ops.size false).getD i false) = fun _ => false := by
    funext i
    simp only [Array.getD_eq_getD_getElem?, Array.getElem?_replicate]
    split <;> rfl
  rw [this]
  exact h0
end oo
end Go.Proofs.YtafikekndefjcaaDoor
