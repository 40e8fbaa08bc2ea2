/- An abstract machine for the text, part fifteen: what an operation looks at; regions that leave their order open; plain lemmas over any program; no condition. -/
import Derived.Test.YtkollnaojpppcaaAm14
namespace Go.Proofs.Ytkollnaojpppcaa
open Go.RowKit

section congr
variable {TT : TTab} {PT : PTab} {σ τ : AS} {id : Nat} {o : Oper}

/-- The names of operands. -/
def fpo (σ : AS) (xs : List Operand) : List Nat := xs.flatMap fun x => match σ.ev x with
  | some av => av.ids
  | none => []
theorem fpo_mem {xs : List Operand} {x : Operand} {av : AV} {k : Nat} (hx : x ∈ xs) (he : σ.ev x = some av) (hk : k ∈ av.ids) : k ∈ fpo σ xs :=
  List.mem_flatMap.2 ⟨x, hx, by rw [he]; exact hk⟩

theorem shut1_congr {D : Nat → Bool} {av : AV} (h : ∀ k ∈ av.ids, lk τ.objs k = lk σ.objs k) : τ.shut1 D av = σ.shut1 D av := by
  cases av <;> try rfl
  rename_i k off n
  simp only [AS.shut1, h k (by simp [AV.ids])]
theorem shutL_congr {D : Nat → Bool} : ∀ {cs : List AV}, (∀ k ∈ idsL cs, lk τ.objs k = lk σ.objs k) → τ.shutL D cs = σ.shutL D cs
  | [], _ => rfl
  | c :: cs, h => by
    simp only [idsL, List.mem_append] at h
    simp only [AS.shutL, shut1_congr (D := D) (fun k hk => h k (.inl hk)), shutL_congr (D := D) (fun k hk => h k (.inr hk))]
theorem shut2_congr {D : Nat → Bool} {av : AV} (h : ∀ k ∈ av.ids, lk τ.objs k = lk σ.objs k) : τ.shut2 D av = σ.shut2 D av := by
  cases av <;> first
    | (simp only [AS.shut2, shut1_congr (D := D) h]; done)
    | (simp only [AS.shut2]; rw [shutL_congr (D := D) (fun k hk => h k (by simpa [AV.ids] using hk))])
theorem shutM_congr {D : Nat → Bool} : ∀ {cs : List AV}, (∀ k ∈ idsL cs, lk τ.objs k = lk σ.objs k) → τ.shutM D cs = σ.shutM D cs
  | [], _ => rfl
  | c :: cs, h => by
    simp only [idsL, List.mem_append] at h
    simp only [AS.shutM, shut2_congr (D := D) (fun k hk => h k (.inl hk)), shutM_congr (D := D) (fun k hk => h k (.inr hk))]
theorem idsL_append (xs ys : List AV) : idsL (xs ++ ys) = idsL xs ++ idsL ys := by
  induction xs with
  | nil => rfl
  | cons x xs ih => simp [idsL, ih, List.append_assoc]
theorem evs_congr : ∀ {xs : List Operand}, (∀ x ∈ xs, τ.ev x = σ.ev x) → τ.evs xs = σ.evs xs
  | [], _ => rfl
  | x :: xs, h => by simp only [AS.evs, h x (by simp), evs_congr (xs := xs) fun y hy => h y (by simp [hy])]
theorem parts_congr : ∀ {ps : List (Nat × Operand)}, (∀ p ∈ ps, τ.ev p.2 = σ.ev p.2) → τ.parts ps = σ.parts ps
  | [], _ => rfl
  | (i, x) :: ps, h => by simp only [AS.parts, h (i, x) (by simp), parts_congr (ps := ps) fun y hy => h y (by simp [hy])]
theorem evs_ids : ∀ {xs : List Operand} {l : List AV} {k : Nat}, σ.evs xs = some l → k ∈ idsL l → k ∈ fpo σ xs
  | [], l, k, h, hk => by simp only [AS.evs, Option.some.injEq] at h; subst h; simp [idsL] at hk
  | x :: xs, l, k, h, hk => by
    simp only [AS.evs] at h
    split at h
    · rename_i a l' hx hl
      cases h
      simp only [idsL, List.mem_append] at hk
      rcases hk with hk | hk
      · exact fpo_mem (by simp) hx hk
      · have := evs_ids hl hk
        obtain ⟨y, hy, hyk⟩ := List.mem_flatMap.1 this
        exact List.mem_flatMap.2 ⟨y, by simp [hy], hyk⟩
    · cases h
theorem bndA_congr {n : Nat} {lo hi : Option Operand} (h1 : ∀ x, lo = some x → τ.ev x = σ.ev x) (h2 : ∀ x, hi = some x → τ.ev x = σ.ev x) : bndA τ n lo hi = bndA σ n lo hi := by
  unfold bndA
  cases lo <;> cases hi <;> simp only [] <;> (try rw [h1 _ rfl]) <;> (try rw [h2 _ rfl])

/-- An operation is computed from what it looks at. -/
theorem core_congr (hev : ∀ x ∈ o.op.operands.toList, τ.ev x = σ.ev x) (hobj : ∀ k ∈ fpo σ o.op.operands.toList, lk τ.objs k = lk σ.objs k) (hid : id ∈ τ.ids ↔ id ∈ σ.ids) : core TT PT τ id o = core TT PT σ id o := by
  have hob : ∀ {x av k}, x ∈ o.op.operands.toList → σ.ev x = some av → k ∈ av.ids → lk τ.objs k = lk σ.objs k := fun hx he hk => hobj _ (fpo_mem hx he hk)
  unfold core
  split <;> rename_i ho <;> (try rw [ho] at hev hob) <;> simp only [Op.operands, Array.toList_append, List.mem_append] at hev hob <;> (try simp only [List.mem_cons, List.not_mem_nil, or_false, forall_eq_or_imp, forall_eq] at hev)
  · rw [hev]
  · rw [hev]
  · obtain ⟨h1, h2, h3⟩ := hev
    unfold cPick
    rw [h1]
    split
    · rename_i t _; cases t <;> simp [h2, h3]
    · rfl
  · simp only [cAlloc, hid]
  · simp only [cBox, hev, hid]
  · rename_i t ps
    have hp : τ.parts ps.toList = σ.parts ps.toList := parts_congr fun p hp => hev p.2 (by simp; exact ⟨p.1, by simpa using hp⟩)
    simp only [cBuild, hp]
  · rename_i t n ps
    have hp : τ.parts ps.toList = σ.parts ps.toList := parts_congr fun p hp => hev p.2 (by simp; exact ⟨p.1, by simpa using hp⟩)
    simp only [cBuildS, hp, hid]
  · rename_i t x
    unfold cLoad
    rw [hev]
    split
    · rename_i hx
      rw [hob (by simp) hx (by simp [AV.ids])]
    · rfl
    · rfl
  · rename_i t p x
    obtain ⟨h1, h2⟩ := hev
    unfold cStore
    rw [h1, h2]
    split
    · rename_i hp _
      rw [hob (x := p) (by simp) hp (by simp [AV.ids])]
    · rfl
  · simp only [cNil, hev]
  · obtain ⟨h1, h2⟩ := hev
    simp only [cBin, cNilS, h1, h2]
  · simp only [cUn, hev]
  · simp only [cConv, hev]
  · rename_i f first cap
    split
    · rename_i hf
      have : first = #[] := Array.eq_empty_of_size_eq_zero hf
      subst this
      rw [evs_congr fun x hx => hev x (by simpa using hx)]
    · rfl
  · obtain ⟨h1, h2⟩ := hev
    simp only [cMake, h1, h2, hid]
  · rename_i t x lo hi
    have h1 := hev x (by simp)
    have hlo : ∀ y, lo = some y → τ.ev y = σ.ev y := fun y hy => hev y (by subst hy; simp)
    have hhi : ∀ y, hi = some y → τ.ev y = σ.ev y := fun y hy => hev y (by subst hy; simp)
    unfold cSlice
    rw [h1]
    split
    · rename_i hx
      split
      · unfold slA
        split
        · rw [bndA_congr hlo hhi]
        · rw [bndA_congr hlo hhi, hob (x := x) (by simp) hx (by simp [AV.ids])]
        · rfl
      · rfl
    · rfl
  · simp only [cFA, hev]
  · simp only [cF, hev]
  · rename_i t x y
    obtain ⟨h1, h2⟩ := hev
    unfold cIA
    rw [h1, h2]
    split
    · rename_i hx _
      split
      · unfold idxA
        split
        · rfl
        · rw [hob (x := x) (by simp) hx (by simp [AV.ids])]
        · rfl
      · rfl
      · rfl
    · rfl
  · obtain ⟨h1, h2⟩ := hev
    simp only [cIX, cIS, cI, h1, h2]
  · simp only [cExt, hev]
  · rename_i c
    have hargs : ∀ x ∈ c.args.toList, τ.ev x = σ.ev x := fun x hx => hev x (by
      unfold Call.operands
      simp only [Array.toList_append, List.mem_append]; exact .inr hx)
    have hobA : ∀ {x av k}, x ∈ c.args.toList → σ.ev x = some av → k ∈ av.ids → lk τ.objs k = lk σ.objs k := fun hx => hob (by
      unfold Call.operands
      simp only [Array.toList_append, List.mem_append]; exact .inr hx)
    unfold cCall
    split
    · split
      · rename_i x t ha _ _
        rw [ha] at hargs
        simp only [cLen, hargs x (by simp)]
      · rename_i s x t u ha _ _
        rw [ha] at hargs hobA
        split
        · unfold cApp
          rw [hargs s (by simp), hargs x (by simp)]
          split
          · rename_i ti sv av _ hs hx
            split
            · have hrows : ∀ sz, τ.rows sz av = σ.rows sz av := fun sz => by
                cases av with
                | ref k off n => simp only [AS.rows, hobA (x := x) (by simp) hx (show k ∈ (AV.ref k off n).ids by simp [AV.ids])]
                | v y => cases y with
                  | slice a n c => cases a <;> cases n <;> cases c <;> rfl
                  | _ => rfl
                | _ => rfl
              rw [hrows]
              split
              · split
                · rename_i k off n
                  rw [hobA (x := s) (by simp) hs (show k ∈ (AV.ref k off n).ids by simp [AV.ids])]
                  simp only [hid]
                · simp only [hid]
                · rfl
              · rfl
            · rfl
          · rfl
        · rfl
      · rename_i x y ha _
        rw [ha] at hargs
        simp only [cMM, hargs x (by simp), hargs y (by simp)]
      · rename_i x y ha _
        rw [ha] at hargs
        simp only [cMM, hargs x (by simp), hargs y (by simp)]
      · rfl
    · rename_i x hcal
      have hxo : x ∈ o.op.operands.toList := by
        rw [ho]; simp only [Op.operands]; unfold Call.operands; rw [hcal]; simp
      have hxc : x ∈ c.operands.toList := by unfold Call.operands; rw [hcal]; simp
      have hcx : τ.callee x = σ.callee x := by unfold AS.callee; rw [hev x hxc]
      rw [evs_congr hargs, hcx]
      split
      · rename_i f cs avs hx havs
        unfold cFun
        split
        · rfl
        · rw [shutM_congr (D := fun _ => true) fun k hk => hobj k (by
            rw [idsL_append, List.mem_append] at hk
            rcases hk with hk | hk
            · have := evs_ids havs hk
              obtain ⟨x, hx, hxk⟩ := List.mem_flatMap.1 this
              refine List.mem_flatMap.2 ⟨x, ?_, hxk⟩
              rw [ho]
              simp only [Op.operands]
              unfold Call.operands
              simp only [Array.toList_append, List.mem_append]; exact .inr hx
            · unfold AS.callee at hx
              split at hx
              · split at hx
                · cases hx; simp [idsL] at hk
                · cases hx
              · rename_i cs' he
                cases hx
                exact fpo_mem hxo he (by rw [AV.ids]; exact hk)
              · cases hx)]
      · rfl
    · rfl
  · rfl
end congr
end Go.Proofs.Ytkollnaojpppcaa
