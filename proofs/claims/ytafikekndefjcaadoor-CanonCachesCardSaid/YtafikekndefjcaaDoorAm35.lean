/- An abstract machine for the text, part thirty-five: regions of open order whose slots are known; plain lemmas over any program; no condition. -/
import Derived.Test.YtafikekndefjcaaDoorAm34
namespace Go.Proofs.YtafikekndefjcaaDoor
set_option linter.unusedVariables false
set_option linter.unusedSimpArgs false
set_option linter.unusedSectionVars false
open Go.RowKit
section vv
variable {P : Program} {B : Base} {σ : AS} {Q : Exit → AS → Prop} {ops : Array Oper}
theorem wpList_mono {l : List Oper} {Q Q' : Exit → AS → Prop} {a : Act} {w : World} (h : wpListIn (FR B.ro) 0 P ops (Post B Q) l a w) (hq : ∀ e τ, Q e τ → Q' e τ) : wpListIn (FR B.ro) 0 P ops (Post B Q') l a w := by
  have hp : ∀ e a w, Post B Q e a w → Post B Q' e a w := fun e a w ⟨D, G, τ, hr, h⟩ => ⟨D, G, τ, hr, hq _ _ h⟩
  induction l generalizing a w with
  | nil => exact hp _ _ _ h
  | cons o r ih =>
    unfold wpListIn at h ⊢
    split
    · rename_i hw
      rw [if_pos hw] at h
      exact opIn_mono (fun a w h => ih h) (fun e a w h _ => hp e a w h) h
    · rename_i hw
      rw [if_neg hw] at h
      exact ⟨h.1, ih h.2⟩
theorem s_drawV (hP : P.follows .mixedOrders = true) {id N : Nat} (bs vs : List (Nat × AV)) (Mem : (Nat → Bool) → List (Nat × AObj) → List Nat → Prop)
    (hn : σ.n = N) (h0 : ∀ p ∈ bs, lk σ.slots p.1 = some p.2) (hm0 : Mem (fun _ => false) σ.objs σ.ids)
    (hsz : ops.size = vs.length) (hnd : ((bs ++ vs).map (·.1)).Nodup)
    (low : (ops.toList.zipIdx.all fun p => p.1.after.all fun e => decide (e.on < p.2)) = true)
    (step : ∀ (d : Nat → Bool) (S : List (Nat × AV)) (O : List (Nat × AObj)) (I : List Nat) (i : Nat) (o : Oper) (p : Nat × AV), ops[i]? = some o → vs[i]? = some p → d i = false → (∀ e ∈ o.after, Region.binds .any e = true → d e.on = true) →
      (∀ q ∈ bs, lk S q.1 = some q.2) → (∀ j q, vs[j]? = some q → d j = true → lk S q.1 = some q.2) → Mem d O I →
      SPL P B ops [o] ⟨N, S, O, I⟩ (fun e τ => e = .normal ∧ τ.n = N ∧ τ.slots = st S p.1 p.2 ∧ ∀ d' : Nat → Bool, (∀ j, d' j = (d j || j == i)) → Mem d' τ.objs τ.ids))
    (hend : ∀ (d : Nat → Bool) (S : List (Nat × AV)) (O : List (Nat × AObj)) (I : List Nat), (∀ i, i < ops.size → d i = true) → (∀ q ∈ bs, lk S q.1 = some q.2) → (∀ q ∈ vs, lk S q.1 = some q.2) → Mem d O I → Q .normal ⟨N, S, O, I⟩) :
    SP P B (.region id ops true) σ Q := by
  rw [List.map_append, List.nodup_append] at hnd
  obtain ⟨_, hv, hbv⟩ := hnd
  refine s_drawI hP (fun d τ => τ.n = N ∧ (∀ q ∈ bs, lk τ.slots q.1 = some q.2) ∧ (∀ j q, vs[j]? = some q → d j = true → lk τ.slots q.1 = some q.2) ∧ Mem d τ.objs τ.ids) ⟨hn, h0, fun _ _ _ h => (by cases h), hm0⟩ (fun i o ho e he _ => ?_) (fun d τ i o ⟨h1, h2, h3, h4⟩ ho hd hdep => ?_) (fun d τ hall ⟨h1, h2, h3, h4⟩ => ?_)
  · rw [List.all_eq_true] at low
    have hi := (Array.getElem?_eq_some_iff.1 ho).1
    have hm : (o, i) ∈ ops.toList.zipIdx := by
      rw [List.mk_mem_zipIdx_iff_getElem?]
      simpa using ho
    have := low _ hm
    rw [Array.all_eq_true_iff_forall_mem] at this
    simpa using this e he
  · obtain ⟨n, S, O, I⟩ := τ
    dsimp only at h1 h2 h3 h4
    subst h1
    have hi := (Array.getElem?_eq_some_iff.1 ho).1
    have hil : i < vs.length := by omega
    have hs := step d S O I i o vs[i] ho (List.getElem?_eq_getElem hil) hd hdep h2 h3 h4
    intro D G w a hr
    refine wpList_mono (hs D G w a hr) fun e τ ⟨g1, g2, g3, g4⟩ => ⟨g1, fun d' hd' => ⟨g2, fun q hq => ?_, fun j q hj hdj => ?_, g4 d' hd'⟩⟩
    · rw [g3, lk_st, if_neg]
      · exact h2 q hq
      · exact fun e => hbv _ (List.mem_map.2 ⟨q, hq, rfl⟩) _ (List.mem_map.2 ⟨vs[i], List.getElem_mem hil, rfl⟩) e.symm
    · rw [g3, lk_st]
      rw [hd', Bool.or_eq_true, beq_iff_eq] at hdj
      by_cases hji : j = i
      · subst hji
        rw [List.getElem?_eq_getElem hil] at hj
        cases hj
        rw [if_pos rfl]
      · rw [if_neg]
        · exact h3 j q hj (hdj.resolve_right hji)
        · intro e
          obtain ⟨hjl, rfl⟩ := List.getElem?_eq_some_iff.1 hj
          have hpw := List.pairwise_iff_getElem.1 hv
          rcases Nat.lt_or_gt_of_ne hji with hlt | hlt
          · exact hpw j i (by simpa using hjl) (by simpa using hil) hlt (by simpa using e.symm)
          · exact hpw i j (by simpa using hil) (by simpa using hjl) hlt (by simpa using e)
  · obtain ⟨n, S, O, I⟩ := τ
    dsimp only at h1 h2 h3 h4
    subst h1
    refine hend d S O I hall h2 (fun q hq => ?_) h4
    obtain ⟨j, hj, rfl⟩ := List.getElem_of_mem hq
    exact h3 j _ (List.getElem?_eq_getElem hj) (hall j (by omega))
end vv
end Go.Proofs.YtafikekndefjcaaDoor
