/- A region that leaves its order open and ends in one operation that waits for all others; plain lemmas over any program; no condition. -/
import Derived.Test.YtekeidhndlnghaaOld
import Derived.StillTail
namespace Go.Proofs.Ytekeidhndlnghaa
set_option linter.unusedVariables false
set_option linter.unusedSimpArgs false
set_option linter.unusedSectionVars false
open Go.RowKit

def idle (s : Oper) : Oper := { dst := none, op := .move (.const undef), type := s.type, pos := s.pos, after := s.after, guard := none }
def swapLast : List Oper → List Oper
  | [] => []
  | [s] => [idle s]
  | o :: p :: r => o :: swapLast (p :: r)
def lastOp : List Oper → Oper
  | [] => default
  | [s] => s
  | _ :: p :: r => lastOp (p :: r)

def tailB (L : List Oper) : Bool :=
  (List.range L.length).all (fun i => ((L[i]?).map fun o => o.after.all fun e => decide (e.on < i)).getD false) &&
  (List.range (L.length - 1)).all (fun i => (lastOp L).after.any fun e => Region.binds .any e && e.on == i) &&
  (lastOp L).dst.isNone && (lastOp L).guard.isNone && decide (0 < L.length)

theorem swapLast_length : ∀ L : List Oper, (swapLast L).length = L.length
  | [] => rfl
  | [_] => rfl
  | _ :: p :: r => by simp [swapLast, swapLast_length (p :: r)]
theorem swapLast_get : ∀ (L : List Oper) (i : Nat), i + 1 < L.length → (swapLast L)[i]? = L[i]?
  | [], _, h => by simp at h
  | [_], _, h => by simp at h
  | o :: p :: r, 0, _ => by simp [swapLast]
  | o :: p :: r, i + 1, h => by simp only [swapLast, List.getElem?_cons_succ]; exact swapLast_get (p :: r) i (by simpa using h)
theorem swapLast_last : ∀ (L : List Oper), 0 < L.length → (swapLast L)[L.length - 1]? = some (idle (lastOp L))
  | [], h => by simp at h
  | [_], _ => rfl
  | o :: p :: r, _ => by
    have := swapLast_last (p :: r) (by simp)
    simpa [swapLast, lastOp] using this
theorem lastOp_get : ∀ (L : List Oper), 0 < L.length → L[L.length - 1]? = some (lastOp L)
  | [], h => by simp at h
  | [_], _ => rfl
  | o :: p :: r, _ => by
    have := lastOp_get (p :: r) (by simp)
    simpa [lastOp] using this

theorem least_of {p : Nat → Prop} (n : Nat) (h : p n) : ∃ i, p i ∧ ∀ j, j < i → ¬ p j := by
  induction n using Nat.strongRecOn with
  | _ n ih =>
    by_cases hx : ∃ m, m < n ∧ p m
    · obtain ⟨m, h1, h2⟩ := hx; exact ih m h1 h2
    · exact ⟨n, h, fun j hj hp => hx ⟨j, hj, hp⟩⟩

section
variable {P : Program} {L : List Oper} {Q : Exit → Act → World → Prop}

def tailPost (P : Program) (L : List Oper) (Q : Exit → Act → World → Prop) : Exit → Act → World → Prop
  | .normal, a, w => wpList P L.toArray Q [lastOp L] a w
  | .ret, a, w => Q .ret a w
  | .panic c, a, w => Q (.panic c) a w
  | .exit i, a, w => Q (.exit i) a w
  | .goto l, a, w => Q (.goto l) a w
  | .outgrown, a, w => Q .outgrown a w

theorem afters (i : Nat) : ((swapLast L).toArray[i]?).map (·.after) = (L.toArray[i]?).map (·.after) := by
  simp only [List.getElem?_toArray]
  by_cases h : i + 1 < L.length
  · rw [swapLast_get L i h]
  · by_cases h2 : i + 1 = L.length
    · obtain rfl : i = L.length - 1 := by omega
      rw [swapLast_last L (by omega), lastOp_get L (by omega)]; rfl
    · rw [List.getElem?_eq_none (by rw [swapLast_length]; omega), List.getElem?_eq_none (by omega)]
theorem ready_swap (listed : Array Bool) : Region.ready .any (swapLast L).toArray listed = Region.ready .any L.toArray listed := by
  unfold Region.ready
  rw [show (swapLast L).toArray.size = L.toArray.size by simp [swapLast_length]]
  apply List.filter_congr
  intro i _
  congr 1
  have := congrArg (fun x => (x.map fun (af : Array Edge) => af.all fun e => !Region.binds .any e || listed.getD e.on false).getD false) (afters (L := L) i)
  simpa [Option.map_map, Function.comp_def] using this
theorem yielded_swap (hd : (lastOp L).dst.isNone = true) (h0 : 0 < L.length) (t : Array Value) : yielded (swapLast L).toArray t = yielded L.toArray t := by
  have hd' : (lastOp L).dst = none := by simpa using hd
  funext j
  have key : ((swapLast L).toArray[j]?).bind (·.dst) = (L.toArray[j]?).bind (·.dst) := by
    simp only [List.getElem?_toArray]
    by_cases h : j + 1 < L.length
    · rw [swapLast_get L j h]
    · by_cases h2 : j + 1 = L.length
      · obtain rfl : j = L.length - 1 := by omega
        rw [swapLast_last L h0, lastOp_get L h0]; simp [idle, hd']
      · rw [List.getElem?_eq_none (by rw [swapLast_length]; omega), List.getElem?_eq_none (by omega)]
  unfold yielded
  first
    | rw [key]
    | (simp only [key])

theorem wp_mono_tail {o : Oper} {a : Act} {w : World} {K K' : Act → World → Prop} (hK : ∀ a w, K' a w → K a w) (h : o.wp P a w K' (tailPost P L Q)) : o.wp P a w K Q := by
  unfold Oper.wp Oper.upon at *
  split at h
  · exact hK _ _ h
  · exact hK _ _ h
  · exact hK _ _ h
  · refine Calls.mono h fun e w' he => ?_
    cases e with
    | returned v => exact hK _ _ he
    | panicked c => exact he
    | outgrown => obtain ⟨a0, w0, h0⟩ := he; exact ⟨a0, w0, h0⟩
  · exact Rows.mono h fun v w' he => hK _ _ he
  · exact h
  · exact h.elim

theorem all_listed {listed : Array Bool} (h : ∀ i, i < L.length → listed.getD i false = true) (hsz : listed.size = L.length) : Region.ready .any L.toArray listed = [] := by
  apply List.eq_nil_iff_forall_not_mem.2
  intro i hi
  obtain ⟨h0, o, ho, _⟩ := mem_ready.1 hi
  have hlt : i < L.length := by
    have := (Array.getElem?_eq_some_iff.1 ho).1
    simpa using this
  have h1 := h i hlt
  simp [show i < listed.size by omega] at h0 h1
  rw [h0] at h1; cases h1

theorem wpAny_tail (hT : tailB L = true) : ∀ (fuel : Nat) (listed : Array Bool) (a : Act) (w : World), listed.size = L.length → listed.getD (L.length - 1) false = false →
    ((List.range L.length).filter fun i => !listed.getD i false).length ≤ fuel →
    wpAny P .any (swapLast L).toArray (tailPost P L Q) fuel listed a w → wpAny P .any L.toArray Q fuel listed a w := by
  unfold tailB at hT
  simp only [Bool.and_eq_true, decide_eq_true_eq, List.all_eq_true, List.mem_range] at hT
  obtain ⟨⟨⟨⟨hlow, hsink⟩, hdst⟩, hgd⟩, h0⟩ := hT
  have hgd' : (lastOp L).guard = none := by simpa using hgd
  intro fuel
  induction fuel with
  | zero =>
    intro listed a w hsz hun hc _
    exfalso
    have : L.length - 1 ∈ (List.range L.length).filter fun i => !listed.getD i false := List.mem_filter.2 ⟨List.mem_range.2 (by omega), by simp [hun]⟩
    have := List.length_pos_of_mem this
    omega
  | succ fuel ih =>
    intro listed a w hsz hun hc h
    obtain ⟨hA, hB⟩ := h
    rw [ready_swap] at hA hB
    -- the least operation that is not yet listed may come up
    have hne : Region.ready .any L.toArray listed ≠ [] := by
      obtain ⟨i, ⟨hi, hi2⟩, hmin⟩ := least_of (p := fun i => i < L.length ∧ listed.getD i false = false) (L.length - 1) ⟨by omega, hun⟩
      intro hnil
      have : i ∈ Region.ready .any L.toArray listed := by
        rw [mem_ready]
        refine ⟨by simpa [show i < listed.size by omega] using hi2, L[i], by simp [hi], fun e he _ => ?_⟩
        have h1 := hlow i hi
        simp only [List.getElem?_eq_getElem hi, Option.map_some, Option.getD_some, Array.all_eq_true_iff_forall_mem, decide_eq_true_eq] at h1
        have h2 := hmin e.on (h1 e he)
        have h3 := h1 e he
        cases hl : listed.getD e.on false
        · exact absurd ⟨by omega, hl⟩ h2
        · rfl
      rw [hnil] at this; cases this
    refine ⟨fun e => absurd e hne, fun i hi => ?_⟩
    have h1 := hB i hi
    obtain ⟨hun2, o, ho, hall⟩ := mem_ready.1 hi
    have hlt : i < L.length := by
      have := (Array.getElem?_eq_some_iff.1 ho).1
      simpa using this
    by_cases hlast : i + 1 = L.length
    · -- the last one
      obtain rfl : i = L.length - 1 := by omega
      have hs : o = lastOp L := by
        have := lastOp_get L h0
        simp only [List.getElem?_toArray] at ho
        rw [this] at ho; exact (Option.some.inj ho).symm
      subst hs
      have hall2 : ∀ j, j < L.length → (listed.setIfInBounds (L.length - 1) true).getD j false = true := by
        intro j hj
        by_cases e : j = L.length - 1
        · subst e; simp [hsz]; omega
        · obtain ⟨ed, he, hb⟩ := Array.any_eq_true'.1 (hsink j (by omega))
          simp only [Bool.and_eq_true, beq_iff_eq] at hb
          have := hall ed he hb.1
          rw [hb.2] at this
          rw [getD_set_ne false (by omega)]; exact this
      have hsz2 : (listed.setIfInBounds (L.length - 1) true).size = L.length := by simp [hsz]
      have hnil := all_listed (L := L) hall2 hsz2
      -- what the idle one leaves
      have h2 : tailPost P L Q .normal a w := by
        unfold wpOp at h1
        rw [show (swapLast L).toArray[L.length - 1]? = some (idle (lastOp L)) by simpa using swapLast_last L h0] at h1
        simp only [Region.wanted, idle, if_true] at h1
        have h3 : wpAny P .any (swapLast L).toArray (tailPost P L Q) fuel (listed.setIfInBounds (L.length - 1) true) a w := by
          rcases h1 with h1 | ⟨h1, _⟩
          · simpa [Oper.wp, Oper.upon, execOp, Act.put, Act.eval] using h1
          · obtain ⟨h4, _⟩ := h1
            exfalso
            revert h4
            simp only [execOp, Act.eval]
            intro h6
            have h7 : noRoomEvent ∈ (#[] : Array Event) := h6
            simp at h7
        cases fuel with
        | zero => exact h3.2
        | succ f => exact h3.1 (by rw [ready_swap]; exact hnil)
      unfold wpOp
      simp only [ho, Region.wanted, hgd', if_true]
      have h5 : wpList P L.toArray Q [lastOp L] a w := h2
      unfold wpList at h5
      simp only [Region.wanted, hgd', if_true] at h5
      rcases h5 with h5 | h5
      · left
        refine Oper.wp_mono (fun a w hq => ?_) h5
        cases fuel with
        | zero => exact ⟨hnil, hq⟩
        | succ f => exact ⟨fun _ => hq, fun j hj => by rw [hnil] at hj; cases hj⟩
      · right; exact h5
    · -- another one
      have hi1 : i + 1 < L.length := by omega
      have hnext : ∀ a w, wpAny P .any (swapLast L).toArray (tailPost P L Q) fuel (listed.setIfInBounds i true) a w → wpAny P .any L.toArray Q fuel (listed.setIfInBounds i true) a w := fun a w h => by
        refine ih _ a w (by simp [hsz]) (by rw [getD_set_ne false (by omega)]; exact hun) ?_ h
        have hlt2 : ((List.range L.length).filter fun j => !(listed.setIfInBounds i true).getD j false).length < ((List.range L.length).filter fun j => !listed.getD j false).length := by
          have hsub : ((List.range L.length).filter fun j => !(listed.setIfInBounds i true).getD j false) = (((List.range L.length).filter fun j => !listed.getD j false).filter fun j => decide (j ≠ i)) := by
            rw [List.filter_filter]
            apply List.filter_congr
            intro j hj
            by_cases e : j = i
            · subst e; simp [show j < listed.size by omega]
            · rw [getD_set_ne false (Ne.symm e)]; simp [e]
          rw [hsub]
          apply List.length_filter_lt_length_iff_exists.2
          refine ⟨i, List.mem_filter.2 ⟨List.mem_range.2 hlt, ?_⟩, by simp⟩
          simp [show i < listed.size by omega] at hun2 ⊢
          exact hun2
        omega
      unfold wpOp at h1 ⊢
      rw [show (swapLast L).toArray[i]? = L.toArray[i]? by simpa using swapLast_get L i hi1] at h1
      rw [ho] at h1 ⊢
      simp only at h1 ⊢
      rw [yielded_swap hdst h0] at h1
      split
      · rename_i hw
        rw [if_pos hw] at h1
        rcases h1 with h1 | ⟨h1, a0, w0, h2⟩
        · exact .inl (wp_mono_tail hnext h1)
        · exact .inr ⟨h1, a0, w0, h2⟩
      · rename_i hw
        rw [if_neg hw] at h1
        exact hnext _ _ h1

theorem wp_region_grow_tail {id : Nat} {a : Act} {w : World} (hm : P.follows .mixedOrders = true) (hT : tailB L = true) (hB : Region.lexB .any (swapLast L).toArray = true)
    (h : wpQuiet P (swapLast L).toArray (fun w' => ∃ g, w' = plus w g) (fun a' => ∀ w', (∃ g, w' = plus w g) → wpList P L.toArray Q [lastOp L] a' w') (swapLast L) a) : (Code.region id L.toArray true).wp P Q a w := by
  have h0 : 0 < L.length := by
    unfold tailB at hT
    simp only [Bool.and_eq_true, decide_eq_true_eq] at hT
    exact hT.2
  refine wp_region_any hm ?_
  simp only [Region.lexB, Bool.and_eq_true] at hB
  have h1 : wpAny P .any (swapLast L).toArray (tailPost P L Q) (swapLast L).toArray.size (Array.replicate (swapLast L).toArray.size false) a { w with drawn := w.drawn + 1 } := by
    refine wpAny_of_quiet (C := fun w' => ∃ g, w' = plus w g) (Q := fun a' => ∀ w', (∃ g, w' = plus w g) → wpList P L.toArray Q [lastOp L] a' w') (fun _ w' hw' h => h w' hw') _ _ _ _ (plus_of_below ⟨rfl, rfl, rfl, Nat.le_refl _, fun _ _ => rfl⟩) ?_
    have := wpAnyQ_lex (P := P) (C := fun w' => ∃ g, w' = plus w g) (md := .any) hB.1 (swapLast L) 0 (Array.replicate (swapLast L).toArray.size false) a (by simp) (by simpa using hB.2) h
    simpa using this
  rw [show (swapLast L).toArray.size = L.length by simp [swapLast_length]] at h1
  rw [show L.toArray.size = L.length by simp]
  exact wpAny_tail hT _ _ _ _ (by simp) (getD_replicate_false _ _) (Nat.le_trans (List.length_filter_le _ _) (by simp)) h1
end
end Go.Proofs.Ytekeidhndlnghaa
