/- An abstract machine for the text, part fourteen: how a walk goes on; plain lemmas over any program; no condition. -/
import Derived.Test.YtafikekndefjcaaDoorAmA
import Derived.Laws.IdiomStrings
import Derived.LoopNIn
import Derived.ProofKit
import Derived.OpenShut
import Derived.Deep.Slices
import Derived.Below
import Derived.ChangeSame
import Derived.WideKeyArgs
/- Am14: An abstract machine for the text, part fourteen: how a walk goes on; plain lemmas over any program; no condition. -/
namespace Go.Proofs.YtafikekndefjcaaDoor
set_option linter.unusedVariables false
set_option linter.unusedSimpArgs false
set_option linter.unusedSectionVars false
open Go.RowKit

section k
variable {P : Program} {TT : TTab} {PT : PTab} {B : Base} {σ : AS} {Q : Exit → AS → Prop}
def Kseq (P : Program) (B : Base) (y : Code) (Q : Exit → AS → Prop) (e : Exit) (τ : AS) : Prop := match e with
  | .normal => SP P B y τ Q
  | e => Q e τ
def Kblk (id : Nat) (Q : Exit → AS → Prop) (e : Exit) (τ : AS) : Prop := match e with
  | .exit i => if i = id then Q .normal τ else Q (.exit i) τ
  | e => Q e τ
def Klp {ι : Type} (J : ι → AS) (μ : ι → Nat) (i : ι) (Q : Exit → AS → Prop) (e : Exit) (τ : AS) : Prop := match e with
  | .normal => ∃ j, μ j < μ i ∧ Weak τ (J j)
  | e => Q e τ
theorem s_seq {x y : Code} (h : SP P B x σ (Kseq P B y Q)) : SP P B (.seq x y) σ Q := sp_seq (sp_mono h fun e τ h => by cases e <;> exact h)
theorem s_region1 (hTT : TTok P TT) (hPT : PTok P PT) {id : Nat} {ops : Array Oper} {σ' : AS} (h : runL TT PT ops ops.toList (nxt σ) σ = some σ') (k : Q .normal σ') : SP P B (.region id ops false) σ Q := sp_region hTT hPT h k
theorem s_block {id : Nat} {c : Code} (h : SP P B c σ (Kblk id Q)) : SP P B (.block id c) σ Q := sp_block (sp_mono h fun e τ h => by cases e <;> exact h)
theorem s_loop {ι : Type} {c : Code} (J : ι → AS) (μ : ι → Nat) (i0 : ι) (h0 : Weak σ (J i0)) (round : ∀ i, SP P B c (J i) (Klp J μ i Q)) (hI : B.I0 = [] := by assumption) : SP P B (.loop c) σ Q := sp_loop J μ i0 (by rw [hI]; exact h0) fun i => sp_mono (round i) fun e τ h => by rw [hI]; cases e <;> exact h
def KlpI {ι : Type} (I : List Nat) (J : ι → AS) (μ : ι → Nat) (i : ι) (Q : Exit → AS → Prop) (e : Exit) (τ : AS) : Prop := match e with
  | .normal => ∃ j, μ j < μ i ∧ WeakI I τ (J j)
  | e => Q e τ
theorem s_loopI {ι : Type} {c : Code} {I : List Nat} (hI : B.I0 = I) (J : ι → AS) (μ : ι → Nat) (i0 : ι) (h0 : WeakI I σ (J i0)) (round : ∀ i, SP P B c (J i) (KlpI I J μ i Q)) : SP P B (.loop c) σ Q := sp_loop J μ i0 (by rw [hI]; exact h0) fun i => sp_mono (round i) fun e τ h => by rw [hI]; cases e <;> exact h
theorem k_seq {y : Code} (h : SP P B y σ Q) : Kseq P B y Q .normal σ := h
theorem k_seq_ret {y : Code} (h : Q .ret σ) : Kseq P B y Q .ret σ := h
theorem k_seq_exit {y : Code} {i : Nat} (h : Q (.exit i) σ) : Kseq P B y Q (.exit i) σ := h
theorem k_blk {id : Nat} (h : Q .normal σ) : Kblk id Q .normal σ := h
theorem k_blk_ret {id : Nat} (h : Q .ret σ) : Kblk id Q .ret σ := h
theorem k_blk_exit {id : Nat} (h : Q .normal σ) : Kblk id Q (.exit id) σ := by show (if id = id then _ else _); rw [if_pos rfl]; exact h
theorem k_blk_out {id i : Nat} (hne : i ≠ id) (h : Q (.exit i) σ) : Kblk id Q (.exit i) σ := by show (if i = id then _ else _); rw [if_neg hne]; exact h
theorem k_lp_ret {ι : Type} {J : ι → AS} {μ : ι → Nat} {i : ι} (h : Q .ret σ) : Klp J μ i Q .ret σ := h
theorem k_lp_exit {ι : Type} {J : ι → AS} {μ : ι → Nat} {i : ι} {n : Nat} (h : Q (.exit n) σ) : Klp J μ i Q (.exit n) σ := h
theorem k_lp {ι : Type} {J : ι → AS} {μ : ι → Nat} {i : ι} (j : ι) (h : μ j < μ i) (hw : Weak σ (J j)) : Klp J μ i Q .normal σ := ⟨j, h, hw⟩
theorem ki_lp_ret {ι : Type} {I : List Nat} {J : ι → AS} {μ : ι → Nat} {i : ι} (h : Q .ret σ) : KlpI I J μ i Q .ret σ := h
theorem ki_lp_exit {ι : Type} {I : List Nat} {J : ι → AS} {μ : ι → Nat} {i : ι} {n : Nat} (h : Q (.exit n) σ) : KlpI I J μ i Q (.exit n) σ := h
theorem ki_lp {ι : Type} {I : List Nat} {J : ι → AS} {μ : ι → Nat} {i : ι} (j : ι) (h : μ j < μ i) (hw : WeakI I σ (J j)) : KlpI I J μ i Q .normal σ := ⟨j, h, hw⟩
end k

def weakB (σ τ : AS) (ρ : Nat → Nat) : Prop :=
  τ.n = σ.n ∧ (∀ p ∈ τ.slots, lk σ.slots p.1 = some (p.2.ren ρ) ∧ ∀ k ∈ p.2.ids, k ∈ τ.ids) ∧ (∀ p ∈ τ.objs, lk σ.objs (ρ p.1) = some ⟨p.2.t, p.2.sz, renLL ρ p.2.xs⟩ ∧ p.1 ∈ τ.ids ∧ ∀ q ∈ idsLL p.2.xs, q ∈ τ.ids) ∧ ∀ p ∈ τ.objs, ∀ q ∈ τ.objs, ρ p.1 = ρ q.1 → p.1 = q.1
theorem weakI_of {I : List Nat} {σ τ : AS} (ρ : Nat → Nat) (h : weakB σ τ ρ) (hI : ∀ k ∈ I, ρ k = k ∧ k ∈ τ.ids) : WeakI I σ τ := by
  obtain ⟨h1, h2, h3, h4⟩ := h
  exact ⟨h1, ρ, fun t av ht => h2 (t, av) (mem_lk ht), fun k ob hk => h3 (k, ob) (mem_lk hk), fun k ob k' ob' hk hk' he => h4 (k, ob) (mem_lk hk) (k', ob') (mem_lk hk') he, hI⟩
theorem weak_of {σ τ : AS} (ρ : Nat → Nat) (h : weakB σ τ ρ) : Weak σ τ := weakI_of ρ h (fun k hk => by cases hk)
theorem weakI_id {I : List Nat} {σ τ : AS} (h1 : τ.n = σ.n) (h2 : ∀ p ∈ τ.slots, lk σ.slots p.1 = some p.2 ∧ ∀ k ∈ p.2.ids, k ∈ τ.ids) (h3 : ∀ p ∈ τ.objs, lk σ.objs p.1 = some p.2 ∧ p.1 ∈ τ.ids ∧ ∀ q ∈ idsLL p.2.xs, q ∈ τ.ids) (hI : ∀ k ∈ I, k ∈ τ.ids) : WeakI I σ τ :=
  weakI_of (fun k => k) ⟨h1, fun p hp => by rw [AV.ren_id]; exact h2 p hp, fun p hp => by rw [renLL_id]; exact h3 p hp, fun _ _ _ _ h => h⟩ fun k hk => ⟨rfl, hI k hk⟩
theorem weak_id {σ τ : AS} (h1 : τ.n = σ.n) (h2 : ∀ p ∈ τ.slots, lk σ.slots p.1 = some p.2 ∧ ∀ k ∈ p.2.ids, k ∈ τ.ids) (h3 : ∀ p ∈ τ.objs, lk σ.objs p.1 = some p.2 ∧ p.1 ∈ τ.ids ∧ ∀ q ∈ idsLL p.2.xs, q ∈ τ.ids) : Weak σ τ := weakI_id h1 h2 h3 (fun k hk => by cases hk)
end Go.Proofs.YtafikekndefjcaaDoor
/- Am15: An abstract machine for the text, part fifteen: what an operation looks at; regions that leave their order open; plain lemmas over any program; no condition. -/
namespace Go.Proofs.YtafikekndefjcaaDoor
set_option linter.unusedVariables false
set_option linter.unusedSimpArgs false
set_option linter.unusedSectionVars false
open Go.RowKit

section congr
variable {TT : TTab} {PT : PTab} {σ τ : AS} {id : Nat} {o : Oper}

def fpo (σ : AS) (xs : List Operand) : List Nat := xs.flatMap fun x => match σ.ev x with
  | some av => av.ids
  | none => []
theorem fpo_mem {xs : List Operand} {x : Operand} {av : AV} {k : Nat} (hx : x ∈ xs) (he : σ.ev x = some av) (hk : k ∈ av.ids) : k ∈ fpo σ xs :=
  List.mem_flatMap.2 ⟨x, hx, by rw [he]; exact hk⟩

theorem shut1_congr {D : Nat → Bool} {av : AV} (h : ∀ k ∈ av.ids, lk τ.objs k = lk σ.objs k) : τ.shut1 D av = σ.shut1 D av := by
  cases av <;> try rfl
  rename_i k off n
  simp only [AS.shut1, h k (by simp [AV.ids])]
theorem shutL_congr {D : Nat → Bool} : ∀ {cs : List AV}, (∀ k ∈ idsL cs, lk τ.objs k = lk σ.objs k) → τ.shutL D cs = σ.shutL D cs
  | [], _ => rfl
  | c :: cs, h => by
    simp only [idsL, List.mem_append] at h
    simp only [AS.shutL, shut1_congr (D := D) (fun k hk => h k (.inl hk)), shutL_congr (D := D) (fun k hk => h k (.inr hk))]
theorem shut2_congr {D : Nat → Bool} {av : AV} (h : ∀ k ∈ av.ids, lk τ.objs k = lk σ.objs k) : τ.shut2 D av = σ.shut2 D av := by
  cases av <;> first
    | (simp only [AS.shut2, shut1_congr (D := D) h]; done)
    | (simp only [AS.shut2]; rw [shutL_congr (D := D) (fun k hk => h k (by simpa [AV.ids] using hk))])
theorem shutM_congr {D : Nat → Bool} : ∀ {cs : List AV}, (∀ k ∈ idsL cs, lk τ.objs k = lk σ.objs k) → τ.shutM D cs = σ.shutM D cs
  | [], _ => rfl
  | c :: cs, h => by
    simp only [idsL, List.mem_append] at h
    simp only [AS.shutM, shut2_congr (D := D) (fun k hk => h k (.inl hk)), shutM_congr (D := D) (fun k hk => h k (.inr hk))]
theorem idsL_append (xs ys : List AV) : idsL (xs ++ ys) = idsL xs ++ idsL ys := by
  induction xs with
  | nil => rfl
  | cons x xs ih => simp [idsL, ih, List.append_assoc]
theorem evs_congr : ∀ {xs : List Operand}, (∀ x ∈ xs, τ.ev x = σ.ev x) → τ.evs xs = σ.evs xs
  | [], _ => rfl
  | x :: xs, h => by simp only [AS.evs, h x (by simp), evs_congr (xs := xs) fun y hy => h y (by simp [hy])]
theorem parts_congr : ∀ {ps : List (Nat × Operand)}, (∀ p ∈ ps, τ.ev p.2 = σ.ev p.2) → τ.parts ps = σ.parts ps
  | [], _ => rfl
  | (i, x) :: ps, h => by simp only [AS.parts, h (i, x) (by simp), parts_congr (ps := ps) fun y hy => h y (by simp [hy])]
theorem evs_ids : ∀ {xs : List Operand} {l : List AV} {k : Nat}, σ.evs xs = some l → k ∈ idsL l → k ∈ fpo σ xs
  | [], l, k, h, hk => by simp only [AS.evs, Option.some.injEq] at h; subst h; simp [idsL] at hk
  | x :: xs, l, k, h, hk => by
    simp only [AS.evs] at h
    split at h
    · rename_i a l' hx hl
      cases h
      simp only [idsL, List.mem_append] at hk
      rcases hk with hk | hk
      · exact fpo_mem (by simp) hx hk
      · have := evs_ids hl hk
        obtain ⟨y, hy, hyk⟩ := List.mem_flatMap.1 this
        exact List.mem_flatMap.2 ⟨y, by simp [hy], hyk⟩
    · cases h
theorem bndA_congr {n : Nat} {lo hi : Option Operand} (h1 : ∀ x, lo = some x → τ.ev x = σ.ev x) (h2 : ∀ x, hi = some x → τ.ev x = σ.ev x) : bndA τ n lo hi = bndA σ n lo hi := by
  unfold bndA
  cases lo <;> cases hi <;> simp only [] <;> (try rw [h1 _ rfl]) <;> (try rw [h2 _ rfl])

def topIds : AV → List Nat
  | .ref k _ _ => [k]
  | .ptr k _ _ => [k]
  | .mp k => [k]
  | .yld k => [k]
  | _ => []
theorem rows_congr {sz : Nat} {av : AV} (h : ∀ k ∈ topIds av, lk τ.objs k = lk σ.objs k) : τ.rows sz av = σ.rows sz av := by
  cases av with
  | ref k off n => simp only [AS.rows, h k (by simp [topIds])]
  | v y => cases y with
    | slice a n c => cases a <;> cases n <;> cases c <;> rfl
    | _ => rfl
  | _ => rfl
theorem lenM_congr {d : TypeDesc} {av : AV} (h : ∀ k ∈ topIds av, lk τ.objs k = lk σ.objs k) : lenM τ d av = lenM σ d av := by
  unfold lenM
  split
  · rw [h _ (by simp [topIds])]
  · rfl
  · rfl
  · rfl
theorem cMapK_congr {t : TypeId} {x : Operand} {kv : Value} (hev : τ.ev x = σ.ev x) (h : ∀ k, σ.ev x = some (.mp k) → lk τ.objs k = lk σ.objs k) : cMapK TT τ t x kv = cMapK TT σ t x kv := by
  unfold cMapK
  rw [hev]
  split
  · rename_i k hx
    rw [h _ hx]
  · rfl
theorem entry_ids {x : Operand} {avs L : List AV} {f : FuncId} {k : Nat} (h : σ.entry x avs = some (f, L)) (hk : k ∈ idsL L) : k ∈ idsL avs ∨ ∃ av, σ.ev x = some av ∧ k ∈ av.ids := by
  unfold AS.entry at h
  split at h
  · rename_i f' cs hc
    cases h
    rw [idsL_append, List.mem_append] at hk
    rcases hk with hk | hk
    · exact .inl hk
    · unfold AS.callee at hc
      split at hc
      · split at hc
        · cases hc; simp [idsL] at hk
        · cases hc
      · rename_i cs' he
        cases hc
        exact .inr ⟨_, he, by rw [AV.ids]; exact hk⟩
      · cases hc
  · split at h
    · rename_i f' fs hb
      cases h
      rw [idsL_append, List.mem_append] at hk
      rcases hk with hk | hk
      · unfold AS.bound at hb
        split at hb
        · rename_i cs' he
          cases hb
          exact .inr ⟨_, he, by rw [AV.ids]; exact hk⟩
        · cases hb
      · exact .inl hk
    · cases h
theorem cFun_congr {f : FuncId} {L : List AV} (h : ∀ k ∈ idsL L, lk τ.objs k = lk σ.objs k) : cFun PT τ f L = cFun PT σ f L := by
  unfold cFun
  split
  · rfl
  · rw [shutM_congr (D := fun _ => true) h]
def isFn (o : Oper) : Bool := match o.op with
  | .call c => (match c.callee with | .value _ => true | _ => false)
  | _ => false
def fpF (σ : AS) (o : Oper) : List Nat := if isFn o = true then fpo σ o.op.operands.toList else o.op.operands.toList.flatMap fun x => match σ.ev x with
  | some av => topIds av
  | none => []
theorem topIds_ids {av : AV} {k : Nat} (h : k ∈ topIds av) : k ∈ av.ids := by
  cases av <;> simp [topIds, AV.ids] at h ⊢ <;> exact h
theorem fpF_mem {o : Oper} {x : Operand} {av : AV} {k : Nat} (hx : x ∈ o.op.operands.toList) (he : σ.ev x = some av) (hk : k ∈ topIds av) : k ∈ fpF σ o := by
  unfold fpF
  split
  · exact fpo_mem hx he (topIds_ids hk)
  · exact List.mem_flatMap.2 ⟨x, hx, by rw [he]; exact hk⟩
theorem core_congr (hev : ∀ x ∈ o.op.operands.toList, τ.ev x = σ.ev x) (hobj : ∀ k ∈ fpF σ o, lk τ.objs k = lk σ.objs k) (hid : id ∈ τ.ids ↔ id ∈ σ.ids) : core TT PT τ id o = core TT PT σ id o := by
  have hob : ∀ {x av k}, x ∈ o.op.operands.toList → σ.ev x = some av → k ∈ topIds av → lk τ.objs k = lk σ.objs k := fun hx he hk => hobj _ (fpF_mem hx he hk)
  unfold core
  split <;> rename_i ho <;> (try rw [ho] at hev hob) <;> simp only [Op.operands, Array.toList_append, List.mem_append] at hev hob <;> (try simp only [List.mem_cons, List.not_mem_nil, or_false, forall_eq_or_imp, forall_eq] at hev)
  · rw [hev]
  · rw [hev]
  · obtain ⟨h1, h2, h3⟩ := hev
    unfold cPick
    rw [h1]
    split
    · rename_i t _; cases t <;> simp [h2, h3]
    · rfl
  · simp only [cAlloc, hid]
  · simp only [cBox, hev, hid]
  · rename_i t ps
    have hp : τ.parts ps.toList = σ.parts ps.toList := parts_congr fun p hp => hev p.2 (by simp; exact ⟨p.1, by simpa using hp⟩)
    simp only [cBuild, hp]
  · rename_i t n ps
    have hp : τ.parts ps.toList = σ.parts ps.toList := parts_congr fun p hp => hev p.2 (by simp; exact ⟨p.1, by simpa using hp⟩)
    simp only [cBuildS, hp, hid]
  · rename_i t x
    unfold cLoad
    rw [hev]
    split
    · rename_i hx
      rw [hob (by simp) hx (by simp [topIds])]
    · rfl
    · rfl
  · rename_i t p x
    obtain ⟨h1, h2⟩ := hev
    unfold cStore
    rw [h1, h2]
    split
    · rename_i hp _
      rw [hob (x := p) (by simp) hp (by simp [topIds])]
    · rfl
  · simp only [cNil, hev]
  · obtain ⟨h1, h2⟩ := hev
    simp only [cBin, cNilS, cNilM, h1, h2]
  · simp only [cUn, hev]
  · rename_i s t x
    unfold cConvX cConvB
    simp only [cConv, hev]
    split
    · rfl
    · split
      · rename_i ti av _ hx _
        split
        · rw [rows_congr fun k hk => hob (x := x) (by simp) hx hk]
        · rfl
      · rfl
  · rename_i f first cap
    split
    · rename_i hf
      have : first = #[] := Array.eq_empty_of_size_eq_zero hf
      subst this
      rw [evs_congr fun x hx => hev x (by simpa using hx)]
    · split
      · rename_i hf
        have : cap = #[] := Array.eq_empty_of_size_eq_zero hf
        subst this
        rw [evs_congr fun x hx => hev x (by simpa using hx)]
      · rfl
  · obtain ⟨h1, h2⟩ := hev
    simp only [cMake, h1, h2, hid]
  · rename_i t x lo hi
    have h1 := hev x (by simp)
    have hlo : ∀ y, lo = some y → τ.ev y = σ.ev y := fun y hy => hev y (by subst hy; simp)
    have hhi : ∀ y, hi = some y → τ.ev y = σ.ev y := fun y hy => hev y (by subst hy; simp)
    unfold cSlice
    rw [h1]
    split
    · rename_i hx
      split
      · unfold slA
        split
        · rw [bndA_congr hlo hhi]
        · rw [bndA_congr hlo hhi, hob (x := x) (by simp) hx (by simp [topIds])]
        · rfl
      · rfl
    · rfl
  · simp only [cFA, hev]
  · simp only [cF, hev]
  · rename_i t x y
    obtain ⟨h1, h2⟩ := hev
    unfold cIA
    rw [h1, h2]
    split
    · rename_i hx _
      split
      · unfold idxA
        split
        · rfl
        · rw [hob (x := x) (by simp) hx (by simp [topIds])]
        · rfl
      · rfl
      · rfl
    · rfl
  · obtain ⟨h1, h2⟩ := hev
    simp only [cIX, cIS, cI, h1, h2]
  · simp only [cExt, hev]
  · rename_i c
    have hargs : ∀ x ∈ c.args.toList, τ.ev x = σ.ev x := fun x hx => hev x (by
      unfold Call.operands
      simp only [Array.toList_append, List.mem_append]; exact .inr hx)
    have hobA : ∀ {x av k}, x ∈ c.args.toList → σ.ev x = some av → k ∈ topIds av → lk τ.objs k = lk σ.objs k := fun hx => hob (by
      unfold Call.operands
      simp only [Array.toList_append, List.mem_append]; exact .inr hx)
    unfold cCall
    split
    · split
      · rename_i x t ha _ _
        rw [ha] at hargs
        unfold cLen
        rw [hargs x (by simp)]
        split
        · rename_i hx
          rw [ha] at hobA
          split
          · rfl
          · rw [lenM_congr fun k hk => hobA (x := x) (by simp) hx hk]
          · rfl
        · rfl
      · rename_i s x t u ha _ _
        rw [ha] at hargs hobA
        split
        · unfold cApp
          rw [hargs s (by simp), hargs x (by simp)]
          split
          · rename_i ti sv av _ hs hx
            split
            · have hrows : ∀ sz, τ.rows sz av = σ.rows sz av := fun sz => by
                cases av with
                | ref k off n => simp only [AS.rows, hobA (x := x) (by simp) hx (show k ∈ topIds (AV.ref k off n) by simp [topIds])]
                | v y => cases y with
                  | slice a n c => cases a <;> cases n <;> cases c <;> rfl
                  | _ => rfl
                | _ => rfl
              rw [hrows]
              split
              · split
                · rename_i k off n
                  rw [hobA (x := s) (by simp) hs (show k ∈ topIds (AV.ref k off n) by simp [topIds])]
                  simp only [hid]
                · simp only [hid]
                · rfl
              · rfl
            · rfl
          · rfl
        · rfl
      · rename_i x y ha _
        rw [ha] at hargs
        simp only [cMM, hargs x (by simp), hargs y (by simp)]
      · rename_i x y ha _
        rw [ha] at hargs
        simp only [cMM, hargs x (by simp), hargs y (by simp)]
      · rename_i x y t t2 ha _ _
        rw [ha] at hargs hobA
        simp only [cDel, hargs y (by simp), cMapK_congr (hargs x (by simp)) fun k hk => hobA (x := x) (by simp) hk (by simp [topIds])]
      · rfl
    · rename_i x hcal
      have hxo : x ∈ o.op.operands.toList := by
        rw [ho]; simp only [Op.operands]; unfold Call.operands; rw [hcal]; simp
      have hxc : x ∈ c.operands.toList := by unfold Call.operands; rw [hcal]; simp
      have hex : ∀ avs, τ.entry x avs = σ.entry x avs := fun avs => by unfold AS.entry AS.callee AS.bound; rw [hev x hxc]
      rw [evs_congr hargs]
      split
      · rename_i avs havs
        rw [hex]
        split
        · rename_i f L hx
          have hfn : isFn o = true := by unfold isFn; rw [ho]; simp only [hcal]
          refine cFun_congr fun k hk => hobj k ?_
          unfold fpF
          rw [if_pos hfn]
          rcases entry_ids hx hk with hk | ⟨av, he, hk⟩
          · have := evs_ids havs hk
            obtain ⟨x, hx, hxk⟩ := List.mem_flatMap.1 this
            refine List.mem_flatMap.2 ⟨x, ?_, hxk⟩
            rw [ho]
            simp only [Op.operands]
            unfold Call.operands
            simp only [Array.toList_append, List.mem_append]; exact .inr hx
          · exact fpo_mem hxo he hk
        · rfl
      · rfl
    · rfl
  · rename_i t x
    have hx : ∀ y, x = some y → τ.ev y = σ.ev y := fun y hy => hev y (by subst hy; simp)
    have hh : hintB τ x = hintB σ x := by
      unfold hintB
      cases x with
      | none => rfl
      | some y => simp only [hx y rfl]
    unfold cMakeM
    simp only [hh, hid]
  · rename_i t x y ok
    obtain ⟨h1, h2⟩ := hev
    simp only [cLook, h2, cMapK_congr h1 fun k hk => hob (x := x) (by simp) hk (by simp [topIds])]
  · rename_i t x y z
    obtain ⟨h1, h2, h3⟩ := hev
    simp only [cUpd, h2, h3, cMapK_congr h1 fun k hk => hob (x := x) (by simp) hk (by simp [topIds])]
  · rfl
end congr
end Go.Proofs.YtafikekndefjcaaDoor
/- Am16: An abstract machine for the text, part sixteen: regions that leave their order open; plain lemmas over any program; no condition. -/
namespace Go.Proofs.YtafikekndefjcaaDoor
set_option linter.unusedVariables false
set_option linter.unusedSimpArgs false
set_option linter.unusedSectionVars false
open Go.RowKit

structure Ef where
  dst : Option Nat
  av : AV
  u : List (Nat × Option AObj)
  looks : List Nat
  fp : List Nat
  pt : Option (Nat × Nat × Nat × List AV) := none
  deriving Inhabited
def wr : List AV → Nat → List AV → List AV
  | [], _, _ => []
  | a :: r, 0, [] => a :: r
  | _ :: r, 0, c :: cs => c :: wr r 0 cs
  | a :: r, j + 1, cs => a :: wr r j cs
def wrO (ob : AObj) (e j : Nat) (cs : List AV) : AObj := { ob with xs := ob.xs.set e (wr (ob.xs.getD e []) j cs) }
def pntO (objs : List (Nat × AObj)) : Option (Nat × Nat × Nat × List AV) → List (Nat × AObj)
  | none => objs
  | some (k, e, j, cs) => match lk objs k with
    | some ob => st objs k (wrO ob e j cs)
    | none => objs
def Ef.pk (e : Ef) : List (Nat × Option AObj) := match e.pt with
  | some p => [(p.1, none)]
  | none => []
def Ef.app (e : Ef) (σ : AS) : AS := AS.put ⟨σ.n, σ.slots, pntO (updO σ.objs e.u) e.pt, updI σ.ids (e.u ++ e.pk)⟩ e.dst e.av
def Ef.keys (e : Ef) : List Nat := (e.u ++ e.pk).map (·.1)
theorem wr_get : ∀ (r : List AV) (j : Nat) (cs : List AV) (i : Nat), (wr r j cs)[i]? = if j ≤ i ∧ i < j + cs.length ∧ i < r.length then cs[i - j]? else r[i]?
  | [], j, cs, i => by
    rw [if_neg (by simp)]; simp [wr]
  | a :: r, 0, [], i => by
    rw [if_neg (by simp)]; simp [wr]
  | a :: r, 0, c :: cs, i => by
    cases i with
    | zero => simp [wr]
    | succ i =>
      have := wr_get r 0 cs i
      simp only [wr, List.getElem?_cons_succ, this, List.length_cons, Nat.zero_le, true_and, Nat.zero_add, Nat.sub_zero]
      by_cases h : i < cs.length ∧ i < r.length
      · rw [if_pos h, if_pos (by omega)]
      · rw [if_neg h, if_neg (by omega)]
  | a :: r, j + 1, cs, i => by
    cases i with
    | zero => simp [wr]
    | succ i =>
      have := wr_get r j cs i
      simp only [wr, List.getElem?_cons_succ, this, List.length_cons]
      by_cases h : j ≤ i ∧ i < j + cs.length ∧ i < r.length
      · rw [if_pos h, if_pos (by omega), show i + 1 - (j + 1) = i - j by omega]
      · rw [if_neg h, if_neg (by omega)]
theorem wr_len : ∀ (r : List AV) (j : Nat) (cs : List AV), (wr r j cs).length = r.length
  | [], _, _ => by simp [wr]
  | a :: r, 0, [] => by simp [wr]
  | a :: r, 0, c :: cs => by simp [wr, wr_len r 0 cs]
  | a :: r, j + 1, cs => by simp [wr, wr_len r j cs]
theorem wr_spl {r : List AV} {j : Nat} {cs : List AV} (h : j + cs.length ≤ r.length) : wr r j cs = spl r j cs := by
  apply List.ext_getElem?
  intro i
  rw [wr_get]
  unfold spl
  by_cases h1 : j ≤ i ∧ i < j + cs.length ∧ i < r.length
  · rw [if_pos h1, List.getElem?_append_left (by simp; omega), List.getElem?_append_right (by simp; omega)]
    simp [show min j r.length = j by omega]
  · rw [if_neg h1]
    by_cases h2 : i < j
    · rw [List.getElem?_append_left (by simp; omega), List.getElem?_append_left (by simp; omega), List.getElem?_take_of_lt h2]
    · rw [List.getElem?_append_right (by simp; omega)]
      simp only [List.length_append, List.length_take, List.getElem?_drop]
      by_cases h3 : i < r.length
      · congr 1; omega
      · rw [List.getElem?_eq_none (by omega), List.getElem?_eq_none (by omega)]
theorem wr_comm {r : List AV} {j j' : Nat} {cs cs' : List AV} (h : j + cs.length ≤ j' ∨ j' + cs'.length ≤ j) : wr (wr r j cs) j' cs' = wr (wr r j' cs') j cs := by
  apply List.ext_getElem?
  intro i
  simp only [wr_get, wr_len]
  by_cases h1 : j ≤ i ∧ i < j + cs.length ∧ i < r.length
  · rw [if_pos h1, if_pos h1, if_neg (by omega)]
  · rw [if_neg h1, if_neg h1]
def Apart (p q : Nat × Nat × Nat × List AV) : Prop := p.1 ≠ q.1 ∨ p.2.1 ≠ q.2.1 ∨ p.2.2.1 + p.2.2.2.length ≤ q.2.2.1 ∨ q.2.2.1 + q.2.2.2.length ≤ p.2.2.1
theorem lk_pntO {objs : List (Nat × AObj)} {p : Nat × Nat × Nat × List AV} (k : Nat) : lk (pntO objs (some p)) k = if p.1 = k then (lk objs k).map (fun ob => wrO ob p.2.1 p.2.2.1 p.2.2.2) else lk objs k := by
  obtain ⟨q, e, j, cs⟩ := p
  simp only [pntO]
  cases h : lk objs q with
  | none =>
    simp only
    by_cases e' : q = k
    · subst e'; rw [if_pos rfl, h]; rfl
    · rw [if_neg e']
  | some ob =>
    simp only
    rw [lk_st]
    by_cases e' : q = k
    · subst e'; rw [if_pos rfl, if_pos rfl, h]; rfl
    · rw [if_neg e', if_neg e']
theorem set_getD_ne {α : Type} {l : List α} {e f : Nat} (h : e ≠ f) (x d : α) : (l.set e x).getD f d = l.getD f d := by
  simp [List.getD, List.getElem?_set, h]
theorem wrO_comm {ob : AObj} {e j e' j' : Nat} {cs cs' : List AV} (h : e ≠ e' ∨ j + cs.length ≤ j' ∨ j' + cs'.length ≤ j) : wrO (wrO ob e j cs) e' j' cs' = wrO (wrO ob e' j' cs') e j cs := by
  unfold wrO
  simp only [AObj.mk.injEq, true_and]
  by_cases he : e = e'
  · subst he
    have h' : j + cs.length ≤ j' ∨ j' + cs'.length ≤ j := h.resolve_left (fun h => h rfl)
    rw [List.set_set, List.set_set]
    by_cases hlt : e < ob.xs.length
    · have h1 : ∀ x : List AV, (ob.xs.set e x).getD e [] = x := fun x => by simp [List.getD, hlt]
      rw [h1, h1, wr_comm h']
    · rw [List.set_eq_of_length_le (by omega), List.set_eq_of_length_le (by omega)]
  · rw [set_getD_ne he, set_getD_ne (Ne.symm he), List.set_comm _ _ he]
theorem pntO_comm {objs : List (Nat × AObj)} {p q : Nat × Nat × Nat × List AV} (h : Apart p q) (k : Nat) : lk (pntO (pntO objs (some p)) (some q)) k = lk (pntO (pntO objs (some q)) (some p)) k := by
  simp only [lk_pntO]
  by_cases h1 : p.1 = k
  · by_cases h2 : q.1 = k
    · simp only [h1, h2, if_true]
      cases lk objs k with
      | none => rfl
      | some ob =>
        simp only [Option.map_some]
        rw [wrO_comm (h.resolve_left (fun h => h (h1.trans h2.symm)))]
    · simp only [h1, h2, if_true, if_false]
  · by_cases h2 : q.1 = k
    · simp only [h1, h2, if_true, if_false]
    · simp only [h1, h2, if_false]
def shp (objs : List (Nat × AObj)) (k : Nat) : Option (Nat × Nat) := (lk objs k).map fun ob => (ob.xs.length, ob.sz)
theorem shp_pntO {objs : List (Nat × AObj)} (p : Option (Nat × Nat × Nat × List AV)) (k : Nat) : shp (pntO objs p) k = shp objs k := by
  cases p with
  | none => rfl
  | some p =>
    unfold shp
    rw [lk_pntO]
    split
    · cases lk objs k with
      | none => rfl
      | some ob => simp [wrO]
    · rfl

section eff
variable (TT : TTab) (PT : PTab)
def looksO (ops : Array Oper) (o : Oper) : List Nat :=
  (o.op.operands.toList.filterMap fun | .tmp t => some t | _ => none) ++ (match o.guard with
    | some (j, _) => (((ops[j]?).bind (·.dst)).toList)
    | none => [])
def ptOf (σ : AS) (o : Oper) : Option (Nat × Nat × Nat × List AV) := match o.op with
  | .store _ p x => match σ.ev p, σ.ev x with
    | some (.ptr k e j), some av => some (k, e, j, av.cells)
    | _, _ => none
  | _ => none
def light (o : Oper) : Bool := match o.op with
  | .move _ | .assign _ | .pick _ _ _ | .nilCheck _ | .unOp _ _ _ | .binOp _ _ _ _ _ | .extract _ _ | .fieldAddr _ _ _ | .field _ _ _ => true
  | _ => false
def lightS (σ : AS) (o : Oper) : Bool := light o || match o.op with
  | .load _ x => (match σ.ev x with | some (.pt _) => true | _ => false)
  | .indexAddr _ x _ => (match σ.ev x with | some (.sl _ _) => true | some (.pt _) => true | some (.ptr _ _ _) => true | _ => false)
  | _ => false
def fpA (id : Nat) (σ : AS) (o : Oper) : List Nat := if lightS σ o = true then [] else id :: fpF σ o
theorem core_light {σ τ : AS} {id : Nat} {o : Oper} (hl : light o = true) (hev : ∀ x ∈ o.op.operands.toList, τ.ev x = σ.ev x) : core TT PT τ id o = core TT PT σ id o := by
  unfold light at hl
  unfold core
  split at hl <;> rename_i ho <;> (try rw [ho] at hev) <;> (try simp only [Op.operands, Array.toList_append, List.mem_append] at hev) <;> (try simp only [List.mem_cons, List.not_mem_nil, or_false, forall_eq_or_imp, forall_eq] at hev) <;> (try simp only [ho])
  · rw [hev]
  · rw [hev]
  · obtain ⟨h1, h2, h3⟩ := hev
    unfold cPick
    rw [h1]
    split
    · rename_i t _; cases t <;> simp [h2, h3]
    · rfl
  · simp only [cNil, hev]
  · simp only [cUn, hev]
  · obtain ⟨h1, h2⟩ := hev
    simp only [cBin, cNilS, cNilM, h1, h2]
  · simp only [cExt, hev]
  · simp only [cFA, hev]
  · simp only [cF, hev]
  · cases hl
theorem core_lightS {σ τ : AS} {id : Nat} {o : Oper} (hl : lightS σ o = true) (hev : ∀ x ∈ o.op.operands.toList, τ.ev x = σ.ev x) : core TT PT τ id o = core TT PT σ id o := by
  unfold lightS at hl
  rw [Bool.or_eq_true] at hl
  rcases hl with hl | hl
  · exact core_light TT PT hl hev
  unfold core
  split at hl
  · rename_i t x ho
    rw [ho] at hev
    simp only [Op.operands, Array.toList_append, List.mem_append, List.mem_cons, List.not_mem_nil, or_false, forall_eq_or_imp, forall_eq] at hev
    simp only [ho]
    split at hl
    · rename_i cs hx
      unfold cLoad
      rw [hev, hx]
      cases TT t <;> rfl
    · cases hl
  · rename_i t x y ho
    rw [ho] at hev
    simp only [Op.operands, Array.toList_append, List.mem_append, List.mem_cons, List.not_mem_nil, or_false, forall_eq_or_imp, forall_eq] at hev
    obtain ⟨h1, h2⟩ := hev
    simp only [ho]
    split at hl
    · rename_i s xs hx
      unfold cIA
      rw [h1, h2, hx]
      cases TT t with
      | none => rfl
      | some ti => cases σ.ev y with
        | none => rfl
        | some b => cases b <;> rfl
    · rename_i cs hx
      unfold cIA
      rw [h1, h2, hx]
      cases TT t with
      | none => rfl
      | some ti => cases σ.ev y with
        | none => rfl
        | some b => cases b <;> rfl
    · rename_i k e j hx
      unfold cIA
      rw [h1, h2, hx]
      cases TT t with
      | none => rfl
      | some ti => cases σ.ev y with
        | none => rfl
        | some b => cases b <;> rfl
    · cases hl
  · cases hl
def effA (ops : Array Oper) (id : Nat) (σ : AS) (o : Oper) : Option Ef :=
  if dstOk σ o = true then
    match wantA σ ops o with
    | some true => match core TT PT σ id o with
      | some r => match ptOf σ o with
        | some p => some ⟨o.dst, r.1, [], looksO ops o, [], some p⟩
        | none => some ⟨o.dst, r.1, r.2, looksO ops o, fpA id σ o, none⟩
      | none => none
    | some false => some ⟨o.dst, .v undef, [], looksO ops o, [], none⟩
    | none => none
  else none
def runE (ops : Array Oper) : List Oper → Nat → AS → Option (AS × List Ef)
  | [], _, σ => some (σ, [])
  | o :: r, id, σ => match effA TT PT ops id σ o with
    | some e => match runE ops r (id + 1) (e.app σ) with
      | some (σ', l) => some (σ', e :: l)
      | none => none
    | none => none
end eff

def dd : List Nat → List Nat
  | [] => []
  | x :: r => if (dd r).contains x then dd r else x :: dd r
theorem mem_dd {x : Nat} : ∀ {l : List Nat}, x ∈ dd l ↔ x ∈ l
  | [] => Iff.rfl
  | y :: r => by
    have ih := mem_dd (x := x) (l := r)
    unfold dd
    split
    · rename_i h
      rw [ih, List.mem_cons]
      constructor
      · exact .inr
      · rintro (rfl | h2)
        · exact ih.1 (by simpa using h)
        · exact h2
    · rw [List.mem_cons, List.mem_cons, ih]
def ancs (ops : List Oper) : List (List Nat) :=
  ops.foldl (fun acc o => acc ++ [dd (o.after.toList.flatMap fun e => if Region.binds .any e then e.on :: acc.getD e.on [] else [])]) []
def dis (a b : List Nat) : Bool := a.all fun x => !(b.contains x)
def sepE (a b : Ef) : Bool := a.u.isEmpty && b.u.isEmpty && match a.pt, b.pt with
  | some p, some q => p.2.1 != q.2.1 || Nat.ble (p.2.2.1 + p.2.2.2.length) q.2.2.1 || Nat.ble (q.2.2.1 + q.2.2.2.length) p.2.2.1
  | _, _ => false
def free (a b : Ef) : Bool :=
  (match a.dst with | some d => !(b.looks.contains d) && b.dst != some d | none => true) && (match b.dst with | some d => !(a.looks.contains d) | none => true) && dis a.keys b.fp && dis b.keys a.fp && (dis a.keys b.keys || sepE a b)
def ordOk (ops : List Oper) (es : List Ef) : Bool :=
  (List.range ops.length).all (fun j => ((ops[j]?).map fun o => o.after.toList.all fun e => !(Region.binds .any e) || decide (e.on < j)).getD false) &&
  (List.range es.length).all fun j => (List.range j).all fun i => ((ancs ops).getD j []).contains i || free (es.getD i default) (es.getD j default)

section sound
variable {P : Program} {TT : TTab} {PT : PTab} {B : Base}

structure StEq (σ τ : AS) : Prop where
  n : σ.n = τ.n
  s : ∀ t, lk σ.slots t = lk τ.slots t
  o : ∀ k, lk σ.objs k = lk τ.objs k
  i : ∀ k, k ∈ σ.ids ↔ k ∈ τ.ids
theorem StEq.R {σ τ : AS} (h : StEq σ τ) {G : Gh} {w : World} {a : Act} (hr : R B G σ w a) : R B G τ w a := by
  have e : lk σ.objs = lk τ.objs := funext h.o
  exact ⟨by rw [← h.n]; exact hr.n, fun t av ht => by rw [← h.n]; exact hr.slot t av (by rw [h.s]; exact ht), hr.defers, by rw [← e]; exact hr.heap, fun k hk => (h.i k).1 (hr.ids k hk)⟩

theorem updO_out {u : List (Nat × Option AObj)} : ∀ {objs : List (Nat × AObj)} {k : Nat}, k ∉ u.map (·.1) → lk (updO objs u) k = lk objs k := by
  induction u with
  | nil => intros; rfl
  | cons p r ih =>
    obtain ⟨q, x⟩ := p
    intro objs k hk
    simp only [List.map_cons, List.mem_cons, not_or] at hk
    cases x with
    | some o => simp only [updO]; rw [ih hk.2, lk_st, if_neg (Ne.symm hk.1)]
    | none => simp only [updO]; rw [ih hk.2, lk_dl, if_neg (Ne.symm hk.1)]
theorem updO_in {u : List (Nat × Option AObj)} : ∀ {objs objs' : List (Nat × AObj)} {k : Nat}, k ∈ u.map (·.1) ∨ lk objs k = lk objs' k → lk (updO objs u) k = lk (updO objs' u) k := by
  induction u with
  | nil => intro objs objs' k h; rcases h with h | h; simp at h; exact h
  | cons p r ih =>
    obtain ⟨q, x⟩ := p
    intro objs objs' k hk
    simp only [List.map_cons, List.mem_cons] at hk
    cases x with
    | some o =>
      simp only [updO]
      refine ih ?_
      by_cases e : q = k
      · right; simp [lk_st, e]
      · rcases hk with (h | h) | h
        · exact absurd h.symm e
        · exact .inl h
        · right; simp [lk_st, e, h]
    | none =>
      simp only [updO]
      refine ih ?_
      by_cases e : q = k
      · right; simp [lk_dl, e]
      · rcases hk with (h | h) | h
        · exact absurd h.symm e
        · exact .inl h
        · right; simp [lk_dl, e, h]

def apps (E : Nat → Ef) (l : List Nat) (σ : AS) : AS := l.foldl (fun s i => (E i).app s) σ
theorem app_n (e : Ef) (σ : AS) : (e.app σ).n = σ.n := by
  unfold Ef.app AS.put; cases e.dst <;> rfl
theorem app_objs (e : Ef) (σ : AS) : (e.app σ).objs = pntO (updO σ.objs e.u) e.pt := by
  unfold Ef.app AS.put; cases e.dst <;> rfl
theorem app_ids (e : Ef) (σ : AS) : (e.app σ).ids = updI σ.ids (e.u ++ e.pk) := by
  unfold Ef.app AS.put; cases e.dst <;> rfl
theorem app_slot (e : Ef) (σ : AS) (t : Nat) : lk (e.app σ).slots t = if e.dst = some t then some e.av else lk σ.slots t := by
  unfold Ef.app AS.put
  cases h : e.dst with
  | none => simp
  | some d => simp only [lk_st, Option.some.injEq]
theorem pntO_congr {objs objs' : List (Nat × AObj)} (p : Option (Nat × Nat × Nat × List AV)) {k : Nat} (h : lk objs k = lk objs' k) : lk (pntO objs p) k = lk (pntO objs' p) k := by
  cases p with
  | none => exact h
  | some p => rw [lk_pntO, lk_pntO, h]
theorem app_obj_congr (e : Ef) {σ τ : AS} {k : Nat} (h : lk σ.objs k = lk τ.objs k) : lk (e.app σ).objs k = lk (e.app τ).objs k := by
  rw [app_objs, app_objs]
  exact pntO_congr _ (updO_in (.inr h))
theorem keys_u {e : Ef} {k : Nat} (h : k ∈ e.u.map (·.1)) : k ∈ e.keys := by
  unfold Ef.keys; rw [List.map_append]; exact List.mem_append_left _ h
theorem keys_pt {e : Ef} {p : Nat × Nat × Nat × List AV} (h : e.pt = some p) : p.1 ∈ e.keys := by
  unfold Ef.keys Ef.pk; rw [h]; simp
theorem app_obj_out {e : Ef} {σ : AS} {k : Nat} (h : k ∉ e.keys) : lk (e.app σ).objs k = lk σ.objs k := by
  rw [app_objs]
  have h1 : lk (updO σ.objs e.u) k = lk σ.objs k := updO_out fun hk => h (keys_u hk)
  cases hp : e.pt with
  | none => exact h1
  | some p =>
    rw [lk_pntO, if_neg (fun hk : p.1 = k => h (hk ▸ keys_pt hp))]
    exact h1
theorem app_shp (e : Ef) (σ : AS) (k : Nat) : shp (e.app σ).objs k = shp (updO σ.objs e.u) k := by
  rw [app_objs, shp_pntO]
theorem apps_n (E : Nat → Ef) : ∀ (l : List Nat) (σ : AS), (apps E l σ).n = σ.n
  | [], _ => rfl
  | i :: l, σ => by show (apps E l ((E i).app σ)).n = _; rw [apps_n E l, app_n]
theorem apps_slot (E : Nat → Ef) (t : Nat) : ∀ (l : List Nat) (σ τ : AS), lk σ.slots t = lk τ.slots t → lk (apps E l σ).slots t = lk (apps E (l.filter fun i => decide ((E i).dst = some t)) τ).slots t
  | [], σ, τ, h => h
  | i :: l, σ, τ, h => by
    show lk (apps E l ((E i).app σ)).slots t = _
    by_cases hw : (E i).dst = some t
    · rw [List.filter_cons_of_pos (by simpa using hw)]
      exact apps_slot E t l _ _ (by rw [app_slot, app_slot, if_pos hw, if_pos hw])
    · rw [List.filter_cons_of_neg (by simpa using hw)]
      exact apps_slot E t l _ _ (by rw [app_slot, if_neg hw]; exact h)
theorem apps_obj (E : Nat → Ef) (k : Nat) : ∀ (l : List Nat) (σ τ : AS), lk σ.objs k = lk τ.objs k → lk (apps E l σ).objs k = lk (apps E (l.filter fun i => (E i).keys.contains k) τ).objs k
  | [], σ, τ, h => h
  | i :: l, σ, τ, h => by
    show lk (apps E l ((E i).app σ)).objs k = _
    by_cases hw : k ∈ (E i).keys
    · rw [List.filter_cons_of_pos (by simpa using hw)]
      exact apps_obj E k l _ _ (app_obj_congr _ h)
    · rw [List.filter_cons_of_neg (by simpa using hw)]
      exact apps_obj E k l _ _ (by rw [app_obj_out hw]; exact h)
theorem apps_congr (E : Nat → Ef) (k : Nat) : ∀ (l : List Nat) (σ τ : AS), lk σ.objs k = lk τ.objs k → lk (apps E l σ).objs k = lk (apps E l τ).objs k
  | [], σ, τ, h => h
  | i :: l, σ, τ, h => apps_congr E k l _ _ (app_obj_congr _ h)
theorem apps_shp (E : Nat → Ef) (k : Nat) : ∀ (l : List Nat) (σ τ : AS), shp σ.objs k = shp τ.objs k → shp (apps E l σ).objs k = shp (apps E (l.filter fun i => ((E i).u.map (·.1)).contains k) τ).objs k
  | [], σ, τ, h => h
  | i :: l, σ, τ, h => by
    show shp (apps E l ((E i).app σ)).objs k = _
    by_cases hw : k ∈ (E i).u.map (·.1)
    · rw [List.filter_cons_of_pos (by simpa using hw)]
      exact apps_shp E k l _ _ (by rw [app_shp, app_shp]; unfold shp; rw [updO_in (.inl hw)])
    · rw [List.filter_cons_of_neg (by simpa using hw)]
      exact apps_shp E k l _ _ (by rw [app_shp]; unfold shp at h ⊢; rw [updO_out hw]; exact h)
theorem apps_comm (E : Nat → Ef) (i k : Nat) : ∀ (l : List Nat) (σ : AS), (∀ c ∈ l, ∃ p q, (E i).u = [] ∧ (E c).u = [] ∧ (E i).pt = some p ∧ (E c).pt = some q ∧ Apart p q) → lk ((E i).app (apps E l σ)).objs k = lk (apps E l ((E i).app σ)).objs k
  | [], σ, _ => rfl
  | c :: l, σ, h => by
    show lk ((E i).app (apps E l ((E c).app σ))).objs k = lk (apps E l ((E c).app ((E i).app σ))).objs k
    rw [apps_comm E i k l _ (fun d hd => h d (List.mem_cons_of_mem _ hd))]
    refine apps_congr E k l _ _ ?_
    obtain ⟨p, q, h1, h2, h3, h4, h5⟩ := h c List.mem_cons_self
    rw [app_objs, app_objs, app_objs, app_objs, h1, h2, h3, h4]
    simp only [updO]
    exact (pntO_comm h5 k).symm
theorem apps_id (E : Nat → Ef) (k : Nat) : ∀ (l : List Nat) (σ : AS), k ∈ (apps E l σ).ids ↔ k ∈ σ.ids ∨ ∃ i ∈ l, k ∈ (E i).keys
  | [], σ => by simp [apps]
  | i :: l, σ => by
    show k ∈ (apps E l ((E i).app σ)).ids ↔ _
    rw [apps_id E k l, app_ids, updI_mem]
    simp only [List.mem_cons, exists_eq_or_imp]
    constructor
    · rintro ((h | h) | h)
      · exact .inr (.inl h)
      · exact .inl h
      · exact .inr (.inr h)
    · rintro (h | h | h)
      · exact .inl (.inr h)
      · exact .inl (.inl h)
      · exact .inr h

theorem effA_ok (hTT : TTok P TT) (hPT : PTok P PT) {ops : Array Oper} {id : Nat} {σ : AS} {o : Oper} {e : Ef} (h : effA TT PT ops id σ o = some e) {τ : AS} (hn : τ.n = σ.n) (hs : ∀ t ∈ e.looks, lk τ.slots t = lk σ.slots t) (hobj : ∀ k ∈ e.fp, lk τ.objs k = lk σ.objs k) (hid : id ∈ e.fp → (id ∈ τ.ids ↔ id ∈ σ.ids)) (hsh : ∀ p, e.pt = some p → shp τ.objs p.1 = shp σ.objs p.1)
    {G : Gh} {w : World} {a : Act} (hr : R B G τ w a) (K : Act → World → Prop) (Q : Exit → Act → World → Prop) (hK : ∀ G' w' a', R B G' (e.app τ) w' a' → K a' w') :
    if Region.wanted o (yielded ops a.tmps) = true then o.wpIn (FR B.ro) 0 P a w K Q else (∀ f, o.about P w a.eval = some f → (FR B.ro).fn f) ∧ K (a.put o.dst undef) w := by
  unfold effA at h
  split at h
  · rename_i hd
    have hd' : dstOk τ o = true := by unfold dstOk at hd ⊢; rw [hn]; exact hd
    have hlk : e.looks = looksO ops o := by
      split at h
      · split at h
        · split at h <;> (cases h; rfl)
        · cases h
      · cases h; rfl
      · cases h
    have hev : ∀ x ∈ o.op.operands.toList, τ.ev x = σ.ev x := fun x hx => by
      cases x with
      | tmp t => exact hs t (by rw [hlk, looksO, List.mem_append]; exact .inl (List.mem_filterMap.2 ⟨.tmp t, hx, rfl⟩))
      | _ => rfl
    have hw : wantA τ ops o = wantA σ ops o := by
      unfold wantA
      split
      · rfl
      · rename_i j want hg
        split
        · rename_i t ht
          rw [hs t (by rw [hlk, looksO, List.mem_append]; right; rw [hg]; simp only [ht]; simp)]
        · rfl
    split at h
    · rename_i hwt
      rw [← hw] at hwt
      rw [if_pos (wantA_ok hr hwt)]
      split at h
      · rename_i r hc
        split at h
        · rename_i p hp
          cases h
          unfold ptOf at hp
          split at hp
          · rename_i t px x hop
            have hcore : core TT PT σ id o = cStore TT σ t px x := by unfold core; rw [hop]
            rw [hcore] at hc
            have e1 : τ.ev px = σ.ev px := hev px (by rw [hop]; simp [Op.operands])
            have e2 : τ.ev x = σ.ev x := hev x (by rw [hop]; simp [Op.operands])
            unfold cStore at hc
            split at hc
            · rename_i ti k e j av hti hpx hx
              rw [hpx, hx] at hp
              cases hp
              split at hc
              · rename_i ob hob
                split at hc
                · rename_i hcc
                  obtain ⟨g1, g2, g3, g4⟩ := hcc
                  cases hc
                  have hs2 := hsh _ rfl
                  simp only at hs2
                  unfold shp at hs2
                  rw [hob] at hs2
                  cases hob' : lk τ.objs k with
                  | none => rw [hob'] at hs2; cases hs2
                  | some ob' =>
                    rw [hob'] at hs2
                    simp only [Option.map_some, Option.some.injEq, Prod.mk.injEq] at hs2
                    obtain ⟨s1, s2⟩ := hs2
                    have hco := ok_store (σ := τ) (hTT _ _ hti) hop (e1.trans hpx) hob' (by rw [s1]; exact g1) (e2.trans hx) g3 g4 (by rw [s2]; exact g2)
                    have hrow : (ob'.xs.getD e []).length = ob'.sz := by
                      obtain ⟨_, _, _, _, _, _, q4, _⟩ := (hr.heap.obj k ob' hob').cells (by have := (hTT _ _ hti).pos; omega)
                      exact q4 e (by rw [s1]; exact g1)
                    have happ : ∀ xx : AV, (AS.put (τ.upd [(k, some { ob' with xs := ob'.xs.set e (spl (ob'.xs.getD e []) j av.cells) })]) o.dst xx) = (Ef.app ⟨o.dst, xx, [], looksO ops o, [], some (k, e, j, av.cells)⟩ τ) := fun xx => by
                      rw [← wr_spl (by rw [hrow, s2, g4]; exact g2)]
                      unfold Ef.app AS.upd Ef.pk pntO wrO
                      simp only [hob', updO, List.nil_append, updI]
                    exact wp_FR (fun c hcc => by rw [hop] at hcc; cases hcc) (hco B G w a hr K Q fun G' w' xv hle hr' hxv => hK G' w' _ (by
                      rw [← happ]
                      exact hr'.put (fun d hdd => R.dst (G := G) (w := w) (a := a) hd' d hdd) hxv))
                · cases hc
              · cases hc
            · cases hc
          · cases hp
        · cases h
          have hc' : core TT PT τ id o = some r := by
            by_cases hlt : lightS σ o = true
            · rw [core_lightS TT PT hlt hev]; exact hc
            · unfold fpA at hobj hid
              rw [if_neg hlt] at hobj hid
              rw [core_congr hev (fun k hk => hobj k (List.mem_cons_of_mem _ hk)) (hid List.mem_cons_self)]; exact hc
          exact wp_FR (core_nd hc') (core_ok hTT hPT hc' B G w a hr K Q fun G' w' x hle hr' hx => hK G' w' _ (by
            have := hr'.put (fun d hdd => R.dst (G := G) (w := w) (a := a) hd' d hdd) hx
            unfold Ef.app Ef.pk pntO
            simpa [AS.upd] using this))
      · cases h
    · rename_i hwt
      rw [← hw] at hwt
      rw [if_neg (by rw [wantA_ok hr hwt]; simp)]
      cases h
      exact ⟨fun _ _ => trivial, hK G w _ (by
        have := hr.put (R.dst (G := G) (w := w) (a := a) hd') (.v undef)
        unfold Ef.app Ef.pk pntO
        simpa [updO, updI] using this)⟩
    · cases h
  · cases h

def EffOk (P : Program) (B : Base) (ops : Array Oper) (σ : AS) (o : Oper) (e : Ef) : Prop :=
  ∀ {τ : AS}, τ.n = σ.n → (∀ t ∈ e.looks, lk τ.slots t = lk σ.slots t) → (∀ k ∈ e.fp, lk τ.objs k = lk σ.objs k) → (∀ k ∈ e.fp, (k ∈ τ.ids ↔ k ∈ σ.ids)) → (∀ p, e.pt = some p → shp τ.objs p.1 = shp σ.objs p.1) →
    ∀ {G : Gh} {w : World} {a : Act}, R B G τ w a → ∀ (K : Act → World → Prop) (Q : Exit → Act → World → Prop), (∀ G' w' a', R B G' (e.app τ) w' a' → K a' w') →
    if Region.wanted o (yielded ops a.tmps) = true then o.wpIn (FR B.ro) 0 P a w K Q else (∀ f, o.about P w a.eval = some f → (FR B.ro).fn f) ∧ K (a.put o.dst undef) w
def EffOkR (P : Program) (ro : Option Nat) (RR : AS → World → Act → Prop) (ops : Array Oper) (σ : AS) (o : Oper) (e : Ef) : Prop :=
  ∀ {τ : AS}, τ.n = σ.n → (∀ t ∈ e.looks, lk τ.slots t = lk σ.slots t) → (∀ k ∈ e.fp, lk τ.objs k = lk σ.objs k) → (∀ k ∈ e.fp, (k ∈ τ.ids ↔ k ∈ σ.ids)) → (∀ p, e.pt = some p → shp τ.objs p.1 = shp σ.objs p.1) →
    ∀ {w : World} {a : Act}, RR τ w a → ∀ (K : Act → World → Prop) (Q : Exit → Act → World → Prop), (∀ w' a', RR (e.app τ) w' a' → K a' w') →
    if Region.wanted o (yielded ops a.tmps) = true then o.wpIn (FR ro) 0 P a w K Q else (∀ f, o.about P w a.eval = some f → (FR ro).fn f) ∧ K (a.put o.dst undef) w
theorem EffOk.r {ops : Array Oper} {σ : AS} {o : Oper} {e : Ef} (h : EffOk P B ops σ o e) : EffOkR P B.ro (fun τ w a => ∃ G, R B G τ w a) ops σ o e :=
  fun hn hs ho hi hp _ _ ⟨_, hr⟩ K Q hK => h hn hs ho hi hp hr K Q fun G' w' a' hr' => hK w' a' ⟨G', hr'⟩
theorem effA_eff (hTT : TTok P TT) (hPT : PTok P PT) {ops : Array Oper} {id : Nat} {σ : AS} {o : Oper} {e : Ef} (h : effA TT PT ops id σ o = some e) : EffOk P B ops σ o e :=
  fun hn hs hobj hid hsh _ _ _ hr K Q hK => effA_ok hTT hPT h hn hs hobj (hid _) hsh hr K Q hK
def runG (eff : Nat → AS → Oper → Option Ef) : List Oper → Nat → AS → Option (AS × List Ef)
  | [], _, σ => some (σ, [])
  | o :: r, id, σ => match eff id σ o with
    | some e => match runG eff r (id + 1) (e.app σ) with
      | some (σ', l) => some (σ', e :: l)
      | none => none
    | none => none
theorem runE_runG {ops : Array Oper} : ∀ (l : List Oper) (id : Nat) (σ : AS), runE TT PT ops l id σ = runG (effA TT PT ops) l id σ
  | [], id, σ => rfl
  | o :: r, id, σ => by
    simp only [runE, runG]
    cases effA TT PT ops id σ o with
    | none => rfl
    | some e => simp only [runE_runG r (id + 1) (e.app σ)]
theorem runG_get {eff : Nat → AS → Oper → Option Ef} : ∀ {l : List Oper} {id : Nat} {σ σ' : AS} {es : List Ef}, runG eff l id σ = some (σ', es) → es.length = l.length ∧ σ' = apps (fun i => es.getD i default) (List.range es.length) σ ∧
    ∀ i o, l[i]? = some o → eff (id + i) (apps (fun i => es.getD i default) (List.range i) σ) o = some (es.getD i default)
  | [], id, σ, σ', es, h => by
    simp only [runG, Option.some.injEq, Prod.mk.injEq] at h
    obtain ⟨rfl, rfl⟩ := h
    exact ⟨rfl, rfl, fun i o hi => by simp at hi⟩
  | o :: r, id, σ, σ', es, h => by
    simp only [runG] at h
    split at h
    · rename_i e he
      split at h
      · rename_i s2 l2 hr
        cases h
        obtain ⟨h1, h2, h3⟩ := runG_get hr
        have hap : ∀ n, apps (fun i => (e :: l2).getD i default) (List.range (n + 1)) σ = apps (fun i => l2.getD i default) (List.range n) (e.app σ) := fun n => by
          unfold apps
          rw [List.range_succ_eq_map, List.foldl_cons, List.foldl_map]
          rfl
        refine ⟨by simp [h1], ?_, fun i o' hi => ?_⟩
        · rw [h2]; exact (hap _).symm
        · cases i with
          | zero => simp at hi; subst hi; exact he
          | succ i =>
            rw [hap]
            have := h3 i o' (by simpa using hi)
            rw [show id + (i + 1) = id + 1 + i by omega]
            simpa using this
      · cases h
    · cases h

theorem dis_ok {a b : List Nat} (h : dis a b = true) {x : Nat} (hx : x ∈ a) : x ∉ b := by
  have := List.all_eq_true.1 h x hx
  simpa using this
structure Free (a b : Ef) : Prop where
  d1 : ∀ d, a.dst = some d → d ∉ b.looks ∧ b.dst ≠ some d
  d2 : ∀ d, b.dst = some d → d ∉ a.looks
  k1 : ∀ k ∈ a.keys, k ∉ b.fp
  k2 : ∀ k ∈ b.keys, k ∉ a.fp
  k3 : (∀ k ∈ a.keys, k ∉ b.keys) ∨ ∃ p q, a.u = [] ∧ b.u = [] ∧ a.pt = some p ∧ b.pt = some q ∧ Apart p q
theorem free_ok {a b : Ef} (h : free a b = true) : Free a b := by
  unfold free at h
  simp only [Bool.and_eq_true] at h
  obtain ⟨⟨⟨⟨h1, h2⟩, h3⟩, h4⟩, h5⟩ := h
  refine ⟨fun d hd => ?_, fun d hd => ?_, fun k hk => dis_ok h3 hk, fun k hk => dis_ok h4 hk, ?_⟩
  rotate_left 2
  · simp only [Bool.or_eq_true] at h5
    rcases h5 with h5 | h5
    · exact .inl fun k hk => dis_ok h5 hk
    · right
      unfold sepE at h5
      simp only [Bool.and_eq_true, List.isEmpty_iff] at h5
      obtain ⟨⟨g1, g2⟩, g3⟩ := h5
      split at g3
      · rename_i p q hp hq
        refine ⟨p, q, g1, g2, hp, hq, ?_⟩
        simp only [Bool.or_eq_true, bne_iff_ne, ne_eq] at g3
        rcases g3 with (g3 | g3) | g3
        · exact .inr (.inl g3)
        · exact .inr (.inr (.inl (Nat.le_of_ble_eq_true g3)))
        · exact .inr (.inr (.inr (Nat.le_of_ble_eq_true g3)))
      · cases g3
  · rw [hd] at h1
    simp only [Bool.and_eq_true, bne_iff_ne, ne_eq] at h1
    exact ⟨by simpa using h1.1, h1.2⟩
  · rw [hd] at h2
    simpa using h2

theorem ancs_len (ops : List Oper) : (ancs ops).length = ops.length := by
  unfold ancs
  have : ∀ (l : List Oper) (acc : List (List Nat)), (l.foldl (fun acc o => acc ++ [dd (o.after.toList.flatMap fun e => if Region.binds .any e then e.on :: acc.getD e.on [] else [])]) acc).length = acc.length + l.length := by
    intro l
    induction l with
    | nil => intro acc; rfl
    | cons o l ih => intro acc; rw [List.foldl_cons, ih]; simp; omega
  simpa using this ops []
theorem ancs_snoc (ops : List Oper) (o : Oper) : ancs (ops ++ [o]) = ancs ops ++ [dd (o.after.toList.flatMap fun e => if Region.binds .any e then e.on :: (ancs ops).getD e.on [] else [])] := by
  unfold ancs; rw [List.foldl_append]; rfl
theorem ancs_get (ops : List Oper) : ∀ n, n ≤ ops.length → ∀ j o, j < n → ops[j]? = some o → ∀ i, i ∈ (ancs (ops.take n)).getD j [] → ∃ e ∈ o.after, Region.binds .any e = true ∧ (i = e.on ∨ i ∈ (ancs (ops.take j)).getD e.on [])
  | 0, _, j, o, hj, _, _, _ => by omega
  | n + 1, hn, j, o, hj, ho, i, hi => by
    have hlt : n < ops.length := by omega
    rw [List.take_succ_eq_append_getElem hlt, ancs_snoc] at hi
    by_cases hjn : j < n
    · have hlen : (ancs (ops.take n)).length = n := by rw [ancs_len]; simp; omega
      have : (ancs (ops.take n) ++ [dd (ops[n].after.toList.flatMap fun e => if Region.binds .any e then e.on :: (ancs (ops.take n)).getD e.on [] else [])]).getD j [] = (ancs (ops.take n)).getD j [] := by
        simp only [List.getD]; rw [List.getElem?_append_left (by omega)]
      rw [this] at hi
      exact ancs_get ops n (by omega) j o hjn ho i hi
    · have hjn' : j = n := by omega
      subst hjn'
      have hlen : (ancs (ops.take j)).length = j := by rw [ancs_len]; simp; omega
      have hoe : ops[j] = o := by
        have := List.getElem?_eq_some_iff.1 ho; exact this.2
      have : (ancs (ops.take j) ++ [dd (ops[j].after.toList.flatMap fun e => if Region.binds .any e then e.on :: (ancs (ops.take j)).getD e.on [] else [])]).getD j [] = dd (ops[j].after.toList.flatMap fun e => if Region.binds .any e then e.on :: (ancs (ops.take j)).getD e.on [] else []) := by
        simp only [List.getD]; rw [List.getElem?_append_right (by omega), hlen]; simp
      rw [this, hoe] at hi
      obtain ⟨e, he, hie⟩ := List.mem_flatMap.1 (mem_dd.1 hi)
      refine ⟨e, by simpa using he, ?_⟩
      split at hie
      · rename_i hb
        refine ⟨hb, ?_⟩
        rcases List.mem_cons.1 hie with h | h
        · exact .inl h
        · exact .inr h
      · cases hie
theorem ancs_take (ops : List Oper) {n j : Nat} (hj : j < n) (hn : n ≤ ops.length) : (ancs (ops.take n)).getD j [] = (ancs (ops.take (j + 1))).getD j [] := by
  induction n with
  | zero => omega
  | succ n ih =>
    by_cases h : j = n
    · subst h; rfl
    · rw [← ih (by omega) (by omega), List.take_succ_eq_append_getElem (show n < ops.length by omega), ancs_snoc]
      have hlen : (ancs (ops.take n)).length = n := by rw [ancs_len]; simp; omega
      simp only [List.getD]; rw [List.getElem?_append_left (by omega)]

variable {ops : Array Oper} {es : List Ef}

def Closed (ops : Array Oper) (D : Nat → Bool) : Prop := ∀ j o, ops[j]? = some o → D j = true → ∀ e ∈ o.after, Region.binds .any e = true → D e.on = true
theorem closed_anc (D : Nat → Bool) (hlow : ∀ j o, ops[j]? = some o → ∀ e ∈ o.after, Region.binds .any e = true → e.on < j) (hc : Closed ops D) : ∀ (j : Nat) (o : Oper), ops[j]? = some o → (∀ e ∈ o.after, Region.binds .any e = true → D e.on = true) → ∀ i ∈ (ancs ops.toList).getD j [], D i = true := by
  intro j
  induction j using Nat.strongRecOn with
  | _ j ih =>
    intro o ho hd i hi
    have hjl : j < ops.toList.length := by
      have := (Array.getElem?_eq_some_iff.1 ho).1
      simpa using this
    have hi' : i ∈ (ancs (ops.toList.take ops.toList.length)).getD j [] := by rw [List.take_length]; exact hi
    obtain ⟨e, he, hb, h⟩ := ancs_get ops.toList ops.toList.length (Nat.le_refl _) j o hjl (by simpa using ho) i hi'
    rcases h with rfl | h
    · exact hd e he hb
    · have hlt := hlow j o ho e he hb
      have hel : e.on < ops.size := by
        have := (Array.getElem?_eq_some_iff.1 ho).1; omega
      have hoe : ops[e.on]? = some ops[e.on] := by simp [hel]
      have hi2 : i ∈ (ancs ops.toList).getD e.on [] := by
        have h1 := ancs_take ops.toList (n := j) hlt (by omega)
        have h2 := ancs_take ops.toList (n := ops.toList.length) (j := e.on) (by omega) (Nat.le_refl _)
        rw [List.take_length] at h2
        rw [h2, ← h1]; exact h
      exact ih e.on hlt _ hoe (fun e' he' hb' => hc e.on _ hoe (hd e he hb) e' he' hb') i hi2

theorem filter_range_eq {n i : Nat} (hi : i ≤ n) {W D : Nat → Bool} (h : ∀ j, j < n → W j = true → (D j = true ↔ j < i)) : ((List.range n).filter D).filter W = (List.range i).filter W := by
  rw [List.filter_filter]
  have e : List.range n = List.range i ++ (List.range (n - i)).map (i + ·) := by
    rw [← List.range_add]; congr 1; omega
  rw [e, List.filter_append]
  have h1 : (List.range i).filter (fun a => W a && D a) = (List.range i).filter W := List.filter_congr fun j hj => by
    simp only [List.mem_range] at hj
    cases hw : W j
    · rfl
    · have := (h j (by omega) hw).2 hj; simp [this]
  have h2 : ((List.range (n - i)).map (i + ·)).filter (fun a => W a && D a) = [] := List.filter_eq_nil_iff.2 fun j hj => by
    simp only [List.mem_map, List.mem_range] at hj
    obtain ⟨q, hq, rfl⟩ := hj
    simp only [Bool.and_eq_true, not_and]
    intro hw hd
    have := (h (i + q) (by omega) hw).1 hd
    omega
  rw [h1, h2, List.append_nil]
theorem filter_range_snoc {n i : Nat} (hi : i < n) {W D : Nat → Bool} (hWi : W i = true) (h : ∀ j, j < n → j ≠ i → W j = true → D j = true → j < i) : ((List.range n).filter fun j => D j || j == i).filter W = ((List.range n).filter D).filter W ++ (if D i = true then [] else [i]) := by
  simp only [List.filter_filter]
  have e : List.range n = List.range i ++ (i :: (List.range (n - i - 1)).map (i + 1 + ·)) := by
    have h1 : List.range n = List.range i ++ (List.range (n - i)).map (i + ·) := by rw [← List.range_add]; congr 1; omega
    have h2 : n - i = (n - i - 1) + 1 := by omega
    rw [h1, h2, List.range_succ_eq_map, List.map_cons, List.map_map]
    simp only [Nat.add_zero, List.append_cancel_left_eq, List.cons.injEq, true_and]
    apply List.map_congr_left
    intro j _
    simp only [Function.comp]
    omega
  rw [e]
  simp only [List.filter_append, List.filter_cons]
  have hA : (List.range i).filter (fun a => W a && (D a || a == i)) = (List.range i).filter (fun a => W a && D a) := List.filter_congr fun j hj => by
    simp only [List.mem_range] at hj
    have : (j == i) = false := by simp; omega
    simp [this]
  have hB : ∀ f : Nat → Bool, (∀ a, f a = true → W a = true ∧ (D a = true ∨ a = i)) → ((List.range (n - i - 1)).map (i + 1 + ·)).filter f = [] := fun f hf => List.filter_eq_nil_iff.2 fun j hj hfj => by
    simp only [List.mem_map, List.mem_range] at hj
    obtain ⟨q, hq, rfl⟩ := hj
    obtain ⟨h1, h2⟩ := hf _ hfj
    rcases h2 with h2 | h2
    · have := h (i + 1 + q) (by omega) (by omega) h1 h2; omega
    · omega
  rw [hA, hB _ (fun a ha => by simp only [Bool.and_eq_true, Bool.or_eq_true, beq_iff_eq] at ha; exact ha), hB _ (fun a ha => by simp only [Bool.and_eq_true] at ha; exact ⟨ha.1, .inl ha.2⟩)]
  simp only [hWi, Bool.true_and, beq_self_eq_true, Bool.or_true, if_true]
  cases hD : D i <;> simp

theorem filter_range_ins {n i : Nat} (hi : i < n) {W D : Nat → Bool} (hWi : W i = true) (hDi : D i = false) : ∃ A C, ((List.range n).filter D).filter W = A ++ C ∧ ((List.range n).filter fun j => D j || j == i).filter W = A ++ i :: C ∧ ∀ c ∈ C, i < c ∧ c < n ∧ D c = true ∧ W c = true := by
  have e : List.range n = List.range i ++ (i :: (List.range (n - i - 1)).map (i + 1 + ·)) := by
    have h1 : List.range n = List.range i ++ (List.range (n - i)).map (i + ·) := by rw [← List.range_add]; congr 1; omega
    have h2 : n - i = (n - i - 1) + 1 := by omega
    rw [h1, h2, List.range_succ_eq_map, List.map_cons, List.map_map]
    simp only [Nat.add_zero, List.append_cancel_left_eq, List.cons.injEq, true_and]
    apply List.map_congr_left
    intro j _
    simp only [Function.comp]
    omega
  refine ⟨(List.range i).filter (fun a => W a && D a), ((List.range (n - i - 1)).map (i + 1 + ·)).filter (fun a => W a && D a), ?_, ?_, fun c hc => ?_⟩
  · rw [List.filter_filter, e, List.filter_append, List.filter_cons]
    simp [hDi]
  · rw [List.filter_filter, e, List.filter_append, List.filter_cons]
    have h1 : (List.range i).filter (fun a => W a && (D a || a == i)) = (List.range i).filter (fun a => W a && D a) := List.filter_congr fun j hj => by
      simp only [List.mem_range] at hj
      have : (j == i) = false := by simp; omega
      simp [this]
    have h2 : ((List.range (n - i - 1)).map (i + 1 + ·)).filter (fun a => W a && (D a || a == i)) = ((List.range (n - i - 1)).map (i + 1 + ·)).filter (fun a => W a && D a) := List.filter_congr fun j hj => by
      simp only [List.mem_map, List.mem_range] at hj
      obtain ⟨q, hq, rfl⟩ := hj
      have : (i + 1 + q == i) = false := by simp; omega
      simp [this]
    rw [h1, h2]
    simp [hWi]
  · simp only [List.mem_filter, List.mem_map, List.mem_range, Bool.and_eq_true] at hc
    obtain ⟨⟨q, hq, rfl⟩, h1, h2⟩ := hc
    exact ⟨by omega, by omega, h2, h1⟩
theorem any_okR {ro : Option Nat} {RR : AS → World → Act → Prop} (hSt : ∀ {σ τ : AS} {w : World} {a : Act}, StEq σ τ → RR σ w a → RR τ w a) {eff : Nat → AS → Oper → Option Ef} (heff0 : ∀ id σ o e, eff id σ o = some e → EffOkR P ro RR ops σ o e) {id : Nat} {σ σ' : AS} (h : runG eff ops.toList id σ = some (σ', es)) (hok : ordOk ops.toList es = true) {Q : Exit → Act → World → Prop} (hQ : ∀ w' a', RR σ' w' a' → Q .normal a' w') :
    ∀ (fuel : Nat) (listed : Array Bool), listed.size = ops.size → Closed ops (fun i => listed.getD i false) → ((List.range ops.size).filter fun i => !listed.getD i false).length ≤ fuel →
    ∀ {w : World} {a : Act}, RR (apps (fun i => es.getD i default) ((List.range es.length).filter fun i => listed.getD i false) σ) w a → wpAnyIn (FR ro) 0 P .any ops Q fuel listed a w := by
  obtain ⟨hlen, hfin, heff⟩ := runG_get h
  have hlen' : es.length = ops.size := by rw [hlen]; simp
  unfold ordOk at hok
  simp only [Bool.and_eq_true, List.all_eq_true, List.mem_range] at hok
  obtain ⟨hlow0, hfree0⟩ := hok
  have hlow : ∀ j o, ops[j]? = some o → ∀ e ∈ o.after, Region.binds .any e = true → e.on < j := fun j o ho e he hb => by
    have hj : j < ops.toList.length := by
      have := (Array.getElem?_eq_some_iff.1 ho).1
      simpa using this
    have h1 := hlow0 j hj
    have h2 : ops.toList[j]? = some o := by simpa using ho
    rw [h2] at h1
    simp only [Option.map_some, Option.getD_some, List.all_eq_true] at h1
    have h3 := h1 e (by simpa using he)
    rw [hb] at h3
    simpa using h3
  have hfree : ∀ i j, i < j → j < ops.size → i ∈ (ancs ops.toList).getD j [] ∨ Free (es.getD i default) (es.getD j default) := fun i j hij hj => by
    have := hfree0 j (by omega) i hij
    simp only [Bool.or_eq_true] at this
    rcases this with h1 | h1
    · exact .inl (by simpa using h1)
    · exact .inr (free_ok h1)
  intro fuel
  -- nothing is ready only when all is done
  have hdone : ∀ (listed : Array Bool), listed.size = ops.size → Region.ready .any ops listed = [] → ∀ i, i < ops.size → listed.getD i false = true := fun listed hsz hnil i => by
    induction i using Nat.strongRecOn with
    | _ i ih =>
      intro hi
      cases hl : listed.getD i false with
      | true => rfl
      | false =>
        exfalso
        have : i ∈ Region.ready .any ops listed := by
          rw [mem_ready]
          refine ⟨by simpa [show i < listed.size by omega] using hl, ops[i], by simp [hi], fun e he hb => ?_⟩
          have hlt := hlow i ops[i] (by simp [hi]) e he hb
          exact ih e.on hlt (by omega)
        rw [hnil] at this; cases this
  have hall : ∀ (listed : Array Bool), listed.size = ops.size → Region.ready .any ops listed = [] → ((List.range es.length).filter fun i => listed.getD i false) = List.range es.length := fun listed hsz hnil => List.filter_eq_self.2 fun i hi => by
    simp only [List.mem_range] at hi
    exact hdone listed hsz hnil i (by omega)
  induction fuel with
  | zero =>
    intro listed hsz hcl hcount w a hr
    have hnil : Region.ready .any ops listed = [] := by
      apply List.eq_nil_iff_forall_not_mem.2
      intro i hi
      obtain ⟨h0, o, ho, _⟩ := mem_ready.1 hi
      have hlt := (Array.getElem?_eq_some_iff.1 ho).1
      have : i ∈ (List.range ops.size).filter fun i => !listed.getD i false := List.mem_filter.2 ⟨List.mem_range.2 hlt, by
        simp [show i < listed.size by omega] at h0 ⊢; exact h0⟩
      have := List.length_pos_of_mem this
      omega
    refine ⟨hnil, ?_⟩
    rw [hall listed hsz hnil, ← hfin] at hr
    exact hQ _ _ hr
  | succ fuel ih =>
    intro listed hsz hcl hcount w a hr
    refine ⟨fun hnil => ?_, fun i hi => ?_⟩
    · rw [hall listed hsz hnil, ← hfin] at hr
      exact hQ _ _ hr
    · obtain ⟨hun, o, ho, hpre⟩ := mem_ready.1 hi
      have hilt := (Array.getElem?_eq_some_iff.1 ho).1
      have hun' : listed.getD i false = false := by
        simp [show i < listed.size by omega] at hun ⊢; exact hun
      have hanc : ∀ q ∈ (ancs ops.toList).getD i [], listed.getD q false = true := closed_anc (fun i => listed.getD i false) hlow hcl i o ho hpre
      have hE := heff i o (by simpa using ho)
      -- who writes what this one looks at
      have hwr : ∀ j, j < es.length → j ≠ i → ¬ Free (es.getD (min i j) default) (es.getD (max i j) default) → (listed.getD j false = true ↔ j < i) := fun j hj hne hnf => by
        rcases Nat.lt_or_gt_of_ne hne with hlt | hgt
        · have hm : min i j = j ∧ max i j = i := by omega
          rw [hm.1, hm.2] at hnf
          rcases hfree j i hlt hilt with h1 | h1
          · exact ⟨fun _ => hlt, fun _ => hanc j h1⟩
          · exact absurd h1 hnf
        · have hm : min i j = i ∧ max i j = j := by omega
          rw [hm.1, hm.2] at hnf
          rcases hfree i j hgt (by omega) with h1 | h1
          · refine ⟨fun hd => ?_, fun h => by omega⟩
            have hjo : ops[j]? = some ops[j] := by simp [show j < ops.size by omega]
            have := closed_anc (fun i => listed.getD i false) hlow hcl j ops[j] hjo (fun e he hb => hcl j _ hjo hd e he hb) i h1
            rw [hun'] at this; cases this
          · exact absurd h1 hnf
      have key := heff0 _ _ _ _ hE (τ := apps (fun i => es.getD i default) ((List.range es.length).filter fun i => listed.getD i false) σ) (by rw [apps_n, apps_n]) (fun t ht => by
          rw [apps_slot _ t _ σ σ rfl, apps_slot _ t (List.range i) σ σ rfl, filter_range_eq (i := i) (by omega) (fun j hj hw => ?_)]
          simp only [decide_eq_true_eq] at hw
          by_cases hji : j = i
          · subst hji; rw [hun']; simp
          · refine hwr j hj hji fun hf => ?_
            rcases Nat.lt_or_gt_of_ne hji with hlt | hgt
            · have hm : min i j = j ∧ max i j = i := by omega
              rw [hm.1, hm.2] at hf
              exact (hf.d1 t hw).1 ht
            · have hm : min i j = i ∧ max i j = j := by omega
              rw [hm.1, hm.2] at hf
              exact hf.d2 t hw ht) (fun k hk => by
          rw [apps_obj _ k _ σ σ rfl, apps_obj _ k (List.range i) σ σ rfl, filter_range_eq (i := i) (by omega) (fun j hj hw => ?_)]
          simp only [List.contains_iff_mem] at hw
          by_cases hji : j = i
          · subst hji; rw [hun']; simp
          · refine hwr j hj hji fun hf => ?_
            rcases Nat.lt_or_gt_of_ne hji with hlt | hgt
            · have hm : min i j = j ∧ max i j = i := by omega
              rw [hm.1, hm.2] at hf
              exact hf.k1 k hw hk
            · have hm : min i j = i ∧ max i j = j := by omega
              rw [hm.1, hm.2] at hf
              exact hf.k2 k hw hk) (fun kk hidf => by
          rw [apps_id, apps_id]
          have : ∀ j, j < es.length → j ≠ i → kk ∈ (es.getD j default).keys → (listed.getD j false = true ↔ j < i) := fun j hj hji hw => hwr j hj hji fun hf => by
            rcases Nat.lt_or_gt_of_ne hji with hlt | hgt
            · have hm : min i j = j ∧ max i j = i := by omega
              rw [hm.1, hm.2] at hf
              exact hf.k1 _ hw hidf
            · have hm : min i j = i ∧ max i j = j := by omega
              rw [hm.1, hm.2] at hf
              exact hf.k2 _ hw hidf
          constructor
          · rintro (h1 | ⟨j, hj, hw⟩)
            · exact .inl h1
            · simp only [List.mem_filter, List.mem_range] at hj
              have hji : j ≠ i := fun e => by rw [e, hun'] at hj; simp at hj
              exact .inr ⟨j, List.mem_range.2 ((this j hj.1 hji hw).1 hj.2), hw⟩
          · rintro (h1 | ⟨j, hj, hw⟩)
            · exact .inl h1
            · simp only [List.mem_range] at hj
              exact .inr ⟨j, List.mem_filter.2 ⟨List.mem_range.2 (by omega), (this j (by omega) (by omega) hw).2 hj⟩, hw⟩) (fun p hp => by
          rw [apps_shp _ p.1 _ σ σ rfl, apps_shp _ p.1 (List.range i) σ σ rfl, filter_range_eq (i := i) (by omega) (fun j hj hw => ?_)]
          simp only [List.contains_iff_mem] at hw
          by_cases hji : j = i
          · subst hji; rw [hun']; simp
          · refine hwr j hj hji fun hf => ?_
            rcases Nat.lt_or_gt_of_ne hji with hlt | hgt
            · have hm : min i j = j ∧ max i j = i := by omega
              rw [hm.1, hm.2] at hf
              rcases hf.k3 with h1 | ⟨_, _, h1, _⟩
              · exact h1 _ (keys_u hw) (keys_pt hp)
              · rw [h1] at hw; cases hw
            · have hm : min i j = i ∧ max i j = j := by omega
              rw [hm.1, hm.2] at hf
              rcases hf.k3 with h1 | ⟨_, _, _, h1, _⟩
              · exact h1 _ (keys_pt hp) (keys_u hw)
              · rw [h1] at hw; cases hw) hr (wpAnyIn (FR ro) 0 P .any ops Q fuel (listed.setIfInBounds i true)) Q (fun w' a' hr' => ?_)
      · unfold wpOpIn
        rw [ho]
        exact key
      · have hset : ∀ j, (listed.setIfInBounds i true).getD j false = (listed.getD j false || j == i) := fun j => by
          by_cases hji : i = j
          · subst hji; simp [show i < listed.size by omega]
          · rw [getD_set_ne false hji]
            have : (j == i) = false := by simp; omega
            simp [this]
        refine ih (listed.setIfInBounds i true) (by simpa using hsz) (fun j oj hoj hdj e he hb => ?_) ?_ (hSt ⟨?_, fun t => ?_, fun k => ?_, fun k => ?_⟩ hr')
        · replace hdj : (listed.setIfInBounds i true).getD j false = true := hdj
          show (listed.setIfInBounds i true).getD e.on false = true
          rw [hset] at hdj ⊢
          simp only [Bool.or_eq_true, beq_iff_eq] at hdj ⊢
          rcases hdj with hdj | rfl
          · exact .inl (hcl j oj hoj hdj e he hb)
          · rw [ho] at hoj; cases hoj
            exact .inl (hpre e he hb)
        · have hlt2 : ((List.range ops.size).filter fun j => !(listed.setIfInBounds i true).getD j false).length < ((List.range ops.size).filter fun j => !listed.getD j false).length := by
            have hsub : ((List.range ops.size).filter fun j => !(listed.setIfInBounds i true).getD j false) = (((List.range ops.size).filter fun j => !listed.getD j false).filter fun j => decide (j ≠ i)) := by
              rw [List.filter_filter]
              apply List.filter_congr
              intro j hj
              rw [hset]
              by_cases e : j = i
              · simp [e]
              · simp [e]
            rw [hsub]
            apply List.length_filter_lt_length_iff_exists.2
            exact ⟨i, List.mem_filter.2 ⟨List.mem_range.2 hilt, by rw [hun']; rfl⟩, by simp⟩
          omega
        · rw [app_n, apps_n, apps_n]
        · -- slots
          rw [show (fun j => (listed.setIfInBounds i true).getD j false) = (fun j => listed.getD j false || j == i) from funext hset]
          rw [app_slot, apps_slot _ t ((List.range es.length).filter fun j => listed.getD j false || j == i) σ σ rfl]
          by_cases hw : (es.getD i default).dst = some t
          · rw [if_pos hw, filter_range_snoc (W := fun j => decide ((es.getD j default).dst = some t)) (D := fun j => listed.getD j false) (by omega) (by simpa using hw) (fun j hj hji hwj hdj => ?_), hun']
            · simp only [Bool.false_eq_true, if_false, apps, List.foldl_append, List.foldl_cons, List.foldl_nil]
              rw [app_slot, if_pos hw]
            · simp only [decide_eq_true_eq] at hwj
              refine (hwr j hj hji fun hf => ?_).1 hdj
              rcases Nat.lt_or_gt_of_ne hji with hlt | hgt
              · have hm : min i j = j ∧ max i j = i := by omega
                rw [hm.1, hm.2] at hf
                exact (hf.d1 t hwj).2 hw
              · have hm : min i j = i ∧ max i j = j := by omega
                rw [hm.1, hm.2] at hf
                exact (hf.d1 t hw).2 hwj
          · rw [if_neg hw, apps_slot _ t _ σ σ rfl]
            congr 2
            simp only [List.filter_filter]
            congr 1
            apply List.filter_congr
            intro j _
            by_cases hji : j = i
            · subst hji; simp only [decide_eq_false hw, Bool.false_and]
            · have : (j == i) = false := by simp [hji]
              simp [this]
        · -- objects
          rw [show (fun j => (listed.setIfInBounds i true).getD j false) = (fun j => listed.getD j false || j == i) from funext hset]
          by_cases hw : k ∈ (es.getD i default).keys
          · obtain ⟨A, C, hA, hC, hcm⟩ := filter_range_ins (n := es.length) (i := i) (W := fun j => (es.getD j default).keys.contains k) (D := fun j => listed.getD j false) (by omega) (by simpa using hw) hun'
            rw [apps_obj _ k ((List.range es.length).filter fun j => listed.getD j false || j == i) σ σ rfl, hC]
            rw [app_obj_congr (es.getD i default) (apps_obj (fun i => es.getD i default) k ((List.range es.length).filter fun j => listed.getD j false) σ σ rfl), hA]
            have e1 : apps (fun i => es.getD i default) (A ++ C) σ = apps (fun i => es.getD i default) C (apps (fun i => es.getD i default) A σ) := by simp only [apps, List.foldl_append]
            have e2 : apps (fun i => es.getD i default) (A ++ i :: C) σ = apps (fun i => es.getD i default) C ((es.getD i default).app (apps (fun i => es.getD i default) A σ)) := by simp only [apps, List.foldl_append, List.foldl_cons]
            rw [e1, e2]
            refine apps_comm (fun i => es.getD i default) i k C _ fun c hc => ?_
            obtain ⟨c1, c2, c3, c4⟩ := hcm c hc
            simp only [List.contains_iff_mem] at c4
            have hnanc : i ∉ (ancs ops.toList).getD c [] := fun h1 => by
              have hco : ops[c]? = some ops[c] := by simp [show c < ops.size by omega]
              have := closed_anc (fun i => listed.getD i false) hlow hcl c ops[c] hco (fun e he hb => hcl c _ hco c3 e he hb) i h1
              rw [hun'] at this; cases this
            rcases hfree i c c1 (by omega) with h1 | h1
            · exact absurd h1 hnanc
            · rcases h1.k3 with h2 | ⟨p, q, h3⟩
              · exact absurd c4 (h2 k hw)
              · exact ⟨p, q, h3⟩
          · rw [app_obj_out hw, apps_obj _ k _ σ σ rfl, apps_obj _ k ((List.range es.length).filter fun j => listed.getD j false || j == i) σ σ rfl]
            congr 2
            simp only [List.filter_filter]
            congr 1
            apply List.filter_congr
            intro j _
            by_cases hji : j = i
            · subst hji
              have hwf : (es.getD j default).keys.contains k = false := by
                cases hc : (es.getD j default).keys.contains k
                · rfl
                · exact absurd (List.contains_iff_mem.1 hc) hw
              simp only [hwf, Bool.false_and]
            · have : (j == i) = false := by simp [hji]
              simp [this]
        · -- names
          rw [app_ids, updI_mem, apps_id, apps_id]
          simp only [List.mem_filter, List.mem_range, hset, Bool.or_eq_true, beq_iff_eq]
          constructor
          · rintro (h1 | h1 | ⟨j, hj, hw⟩)
            · exact .inr ⟨i, ⟨by omega, .inr rfl⟩, h1⟩
            · exact .inl h1
            · exact .inr ⟨j, ⟨hj.1, .inl hj.2⟩, hw⟩
          · rintro (h1 | ⟨j, ⟨hj1, hj2⟩, hw⟩)
            · exact .inr (.inl h1)
            · rcases hj2 with hj2 | rfl
              · exact .inr (.inr ⟨j, ⟨hj1, hj2⟩, hw⟩)
              · exact .inl hw
theorem any_okG {eff : Nat → AS → Oper → Option Ef} (heff0 : ∀ id σ o e, eff id σ o = some e → EffOk P B ops σ o e) {id : Nat} {σ σ' : AS} (h : runG eff ops.toList id σ = some (σ', es)) (hok : ordOk ops.toList es = true) {Q : Exit → Act → World → Prop} (hQ : ∀ G' w' a', R B G' σ' w' a' → Q .normal a' w') (fuel : Nat) (listed : Array Bool) (h1 : listed.size = ops.size) (h2 : Closed ops (fun i => listed.getD i false)) (h3 : ((List.range ops.size).filter fun i => !listed.getD i false).length ≤ fuel) {G : Gh} {w : World} {a : Act} (hr : R B G (apps (fun i => es.getD i default) ((List.range es.length).filter fun i => listed.getD i false) σ) w a) : wpAnyIn (FR B.ro) 0 P .any ops Q fuel listed a w :=
  any_okR (RR := fun τ w a => ∃ G, R B G τ w a) (fun hs ⟨G, hr⟩ => ⟨G, hs.R hr⟩) (fun id σ o e he => EffOk.r (heff0 id σ o e he)) h hok (fun w' a' ⟨G', hr'⟩ => hQ G' w' a' hr') fuel listed h1 h2 h3 ⟨G, hr⟩

theorem R.drew {G : Gh} {σ : AS} {w : World} {a : Act} (hr : R B G σ w a) : R B G σ { w with drawn := w.drawn + 1 } a :=
  ⟨hr.n, hr.slot, hr.defers, ⟨hr.heap.os, hr.heap.tape, hr.heap.output, hr.heap.size, hr.heap.old, fun k o hk => (hr.heap.obj k o hk).mono (Gh.le.refl G) fun _ _ _ _ _ => rfl, hr.heap.own, hr.heap.inj, hr.heap.st, hr.heap.sep, hr.heap.fresh, hr.heap.keep, hr.heap.fix, hr.heap.pin, hr.heap.base⟩, hr.ids⟩
theorem s_drawG (hP : P.follows .mixedOrders = true) {eff : Nat → AS → Oper → Option Ef} (heff0 : ∀ D id σ o e, eff id σ o = some e → EffOk P (B.d D) ops σ o e) {id q : Nat} {σ σ' : AS} {Q : Exit → AS → Prop} (h : runG eff ops.toList q σ = some (σ', es)) (hok : ordOk ops.toList es = true) (k : Q .normal σ') : SP P B (.region id ops true) σ Q :=
  fun D G w a hr => wpIn_region_any hP (any_okG (B := B.d D) (heff0 D) h hok (fun G' w' a' hr' => ⟨D, G', σ', hr', k⟩) ops.size _ (by simp) (fun j o ho hd => by
    have : (Array.replicate ops.size false).getD j false = false := by
      simp only [Array.getD_eq_getD_getElem?, Array.getElem?_replicate]
      split <;> rfl
    replace hd : (Array.replicate ops.size false).getD j false = true := hd
    rw [this] at hd; cases hd) (by
      refine Nat.le_trans (List.length_filter_le _ _) (by simp)) (G := G) (by
      have : ((List.range es.length).filter fun i => (Array.replicate ops.size false).getD i false) = [] := List.filter_eq_nil_iff.2 fun i _ => by
        simp only [Array.getD_eq_getD_getElem?, Array.getElem?_replicate]
        split <;> simp
      rw [this]
      exact hr.drew))
theorem s_draw (hP : P.follows .mixedOrders = true) (hTT : TTok P TT) (hPT : PTok P PT) {id : Nat} {σ σ' : AS} {Q : Exit → AS → Prop} (h : runE TT PT ops ops.toList (nxt σ) σ = some (σ', es)) (hok : ordOk ops.toList es = true) (k : Q .normal σ') : SP P B (.region id ops true) σ Q :=
  s_drawG hP (eff := effA TT PT ops) (fun D id σ o e h => effA_eff hTT hPT h) (by rw [← runE_runG]; exact h) hok k
end sound
end Go.Proofs.YtafikekndefjcaaDoor
/- Am17: An abstract machine for the text, part seventeen: operations one by one; objects that are let go; plain lemmas over any program; no condition. -/
namespace Go.Proofs.YtafikekndefjcaaDoor
set_option linter.unusedVariables false
set_option linter.unusedSimpArgs false
set_option linter.unusedSectionVars false
open Go.RowKit

section
variable {P : Program} {TT : TTab} {PT : PTab} {B : Base} {σ : AS} {Q : Exit → AS → Prop} {ops : Array Oper}
def SPL (P : Program) (B : Base) (ops : Array Oper) (l : List Oper) (σ : AS) (Q : Exit → AS → Prop) : Prop := ∀ D G w a, R (B.d D) G σ w a → wpListIn (FR B.ro) 0 P ops (Post B Q) l a w
theorem s_regionL {id : Nat} (h : SPL P B ops ops.toList σ Q) : SP P B (.region id ops false) σ Q := fun D G w a hr => wpIn_region_list (h D G w a hr)
theorem spl_nil (h : Q .normal σ) : SPL P B ops [] σ Q := fun D G w a hr => ⟨D, G, σ, hr, h⟩
theorem spl_step (hTT : TTok P TT) (hPT : PTok P PT) {id : Nat} {o : Oper} {r : List Oper} {σ' : AS} (h : stepA TT PT ops id σ o = some σ') (k : SPL P B ops r σ' Q) : SPL P B ops (o :: r) σ Q := fun D G w a hr => by
  have := stepA_ok hTT hPT h hr (wpListIn (FR B.ro) 0 P ops (Post B Q) r) (Post B Q) fun G' w' a' _ hr' => k D G' w' a' hr'
  unfold wpListIn
  exact this
theorem spl_opI {o : Oper} {r : List Oper} {s : Res} (hd : dstOk σ o = true) (hw : wantA σ ops o = some true) (hc : CoreI P B o σ s) (k : SPL P B ops r ((σ.upd s.2).put o.dst s.1) Q) : SPL P B ops (o :: r) σ Q := fun D G w a hr => by
  unfold wpListIn
  rw [if_pos (wantA_ok hr hw)]
  exact hc D G w a hr _ _ fun G' w' x hle hr' hx => k D G' w' _ (hr'.put (fun d hdd => R.dst (G := G) (w := w) (a := a) hd d hdd) hx)
theorem spl_op {o : Oper} {r : List Oper} {s : Res} (hd : dstOk σ o = true) (hw : wantA σ ops o = some true) (hc : CoreOk P o σ s) (k : SPL P B ops r ((σ.upd s.2).put o.dst s.1) Q) (hnd : ∀ c, o.op ≠ .defer c := by intro c hc; cases hc) : SPL P B ops (o :: r) σ Q := spl_opI hd hw (hc.inn hnd) k
theorem runL_nil {id : Nat} : runL TT PT ops [] id σ = some σ := rfl
theorem runL_cons {id : Nat} {o : Oper} {r : List Oper} {σ1 σ' : AS} (h : stepA TT PT ops id σ o = some σ1) (k : runL TT PT ops r (id + 1) σ1 = some σ') : runL TT PT ops (o :: r) id σ = some σ' := by
  unfold runL; rw [h]; exact k
theorem runE_nil {id : Nat} : runE TT PT ops [] id σ = some (σ, []) := rfl
theorem runE_cons {id : Nat} {o : Oper} {r : List Oper} {e : Ef} {σ1 σ' : AS} {es : List Ef} (h : effA TT PT ops id σ o = some e) (h1 : e.app σ = σ1) (k : runE TT PT ops r (id + 1) σ1 = some (σ', es)) : runE TT PT ops (o :: r) id σ = some (σ', e :: es) := by
  unfold runE; rw [h]; simp only; rw [h1, k]
theorem s_region2 (hTT : TTok P TT) (hPT : PTok P PT) {id q : Nat} {l : List Oper} {σ' : AS} (hq : nxt σ = q) (h : runL TT PT l.toArray l q σ = some σ') (k : Q .normal σ') : SP P B (.region id l.toArray false) σ Q := sp_region hTT hPT (hq ▸ h) k
theorem s_draw2 (hP : P.follows .mixedOrders = true) (hTT : TTok P TT) (hPT : PTok P PT) {id q : Nat} {l : List Oper} {es : List Ef} {σ' : AS} (hq : nxt σ = q) (h : runE TT PT l.toArray l q σ = some (σ', es)) (hok : ordOk l es = true) (k : Q .normal σ') : SP P B (.region id l.toArray true) σ Q := s_draw (ops := l.toArray) hP hTT hPT (hq ▸ h) hok k
theorem s_cond_t {c : Operand} {x y : Code} (hc : σ.ev c = some (.v (.bool true))) (h : SP P B x σ Q) : SP P B (.cond c x y) σ Q := sp_cond hc (fun _ => h) (fun h => by cases h)
theorem s_cond_f {c : Operand} {x y : Code} (hc : σ.ev c = some (.v (.bool false))) (h : SP P B y σ Q) : SP P B (.cond c x y) σ Q := sp_cond hc (fun h => by cases h) (fun _ => h)
end

section frz
variable {P : Program} {σ : AS} {B : Base} {G : Gh} {w : World} {a : Act}
def frzV (σ : AS) (D : Nat → Bool) (av : AV) : AV := (σ.shut2 D av).getD av
def frzC (σ : AS) (D : Nat → Bool) (av : AV) : AV := (σ.shut1 D av).getD av
def frzO (σ : AS) (D : Nat → Bool) (ob : AObj) : AObj := if idsLL ob.xs = [] then ob else { ob with xs := ob.xs.map fun r => r.map (frzC σ D) }
def AS.frz (σ : AS) (D : Nat → Bool) : AS := ⟨σ.n, σ.slots.map fun p => (p.1, frzV σ D p.2), (σ.objs.filter fun p => !D p.1).map fun p => (p.1, frzO σ D p.2), σ.ids⟩
theorem lk_map {α β : Type} (f : α → β) : ∀ (l : List (Nat × α)) (t : Nat), lk (l.map fun p => (p.1, f p.2)) t = (lk l t).map f
  | [], _ => rfl
  | (e, u) :: r, t => by
    simp only [List.map_cons, lk]
    split
    · rfl
    · exact lk_map f r t
theorem lk_filter {α : Type} (D : Nat → Bool) : ∀ (l : List (Nat × α)) (t : Nat), lk (l.filter fun p => !D p.1) t = if D t = true then none else lk l t
  | [], t => by simp [lk]
  | (e, u) :: r, t => by
    rw [List.filter_cons]
    by_cases h : D e = true
    · simp only [h, Bool.not_true, Bool.false_eq_true, if_false]
      rw [lk_filter D r t]
      by_cases he : e = t
      · subst he; simp [h]
      · simp [lk, he]
    · simp only [h, Bool.not_false, if_true]
      simp only [lk]
      rw [lk_filter D r t]
      by_cases he : e = t
      · subst he; simp [h]
      · simp [he]
theorem frz_rv (hr : R B G σ w a) (D : Nat → Bool) {av : AV} {v : Value} (hv : Rv G av v) : Rv (G.frz σ D w) (frzV σ D av) v := by
  unfold frzV
  cases h : σ.shut2 D av with
  | none => exact hv.mono (frz_le hr D)
  | some av' => exact shut2_ok hr (T := (G.frz σ D w).S) (L := G.loc) (frz_le hr D).S (fun k ob b x p u hD hk hl hc => by rw [frz_in hD hk hl]; exact hc) hv h
theorem frz_rc (hr : R B G σ w a) (D : Nat → Bool) {av : AV} {v : Value} (hv : Rv G av v) : Rv (G.frz σ D w) (frzC σ D av) v := by
  unfold frzC
  cases h : σ.shut1 D av with
  | none => exact hv.mono (frz_le hr D)
  | some av' => exact shut1_ok hr (T := (G.frz σ D w).S) (L := G.loc) (frz_le hr D).S (fun k ob b x p u hD hk hl hc => by rw [frz_in hD hk hl]; exact hc) hv h
theorem R.frz (hr : R B G σ w a) (D : Nat → Bool) : R B (G.frz σ D w) (σ.frz D) w a := by
  have h := hr.freeze D (σ.objs.filter fun p => !D p.1) (fun k ob hk => by
    rw [lk_filter] at hk
    split at hk
    · cases hk
    · rename_i hd; exact ⟨hk, by simpa using hd⟩)
  have hh := h.heap
  have hobj : ∀ k ob', lk (σ.frz D).objs k = some ob' → ∃ ob, lk (σ.objs.filter fun p => !D p.1) k = some ob ∧ ob' = frzO σ D ob := fun k ob' hk => by
    rw [show (σ.frz D).objs = (σ.objs.filter fun p => !D p.1).map fun p => (p.1, frzO σ D p.2) from rfl, lk_map, Option.map_eq_some_iff] at hk
    obtain ⟨ob, h1, h2⟩ := hk
    exact ⟨ob, h1, h2.symm⟩
  refine ⟨hr.n, fun t av ht => ?_, hr.defers, ⟨hh.os, hh.tape, hh.output, hh.size, hh.old, fun k ob' hk => ?_, fun k ob' hk => ?_, fun k k' ob ob' hk hk' => ?_, hh.st, fun k ob' hk => ?_, hh.fresh, hh.keep, hh.fix, hh.pin, hh.base⟩, hr.ids⟩
  · rw [show (σ.frz D).slots = σ.slots.map fun p => (p.1, frzV σ D p.2) from rfl, lk_map, Option.map_eq_some_iff] at ht
    obtain ⟨bv, h1, rfl⟩ := ht
    obtain ⟨h2, h3⟩ := hr.slot t bv h1
    exact ⟨h2, frz_rv hr D h3⟩
  · obtain ⟨ob, h1, rfl⟩ := hobj k ob' hk
    unfold frzO
    split
    · exact hh.obj k ob h1
    · have h1' : lk σ.objs k = some ob := by
        rw [lk_filter] at h1
        split at h1
        · cases h1
        · exact h1
      have hgetm : ∀ i, (ob.xs.map fun r => r.map (frzC σ D)).getD i [] = (ob.xs.getD i []).map (frzC σ D) := fun i => by
        simp only [List.getD, List.getElem?_map]
        cases ob.xs[i]? <;> rfl
      by_cases hz : ob.sz = 0
      · obtain ⟨b, base, cap, g1, es, clock, g2, gs, g3, g4⟩ := (hh.obj k ob h1).map hz
        refine .ofMap hz g1 ⟨es, clock, g2, gs, by simpa using g3, fun i hi => ?_⟩
        obtain ⟨e, key, av, a1, a2, a3, a4, a5⟩ := (by
          obtain ⟨b', base', cap', q1, es', clock', q2, qs, q3, q4⟩ := (hr.heap.obj k ob h1').map hz
          have hi' : i < ob.xs.length := by simpa using hi
          have e1 : b' = b := by have h9 : G.loc k = some (some b, base, cap, 0) := g1; rw [q1] at h9; cases h9; rfl
          subst e1
          rw [q2] at g2; cases g2
          exact q4 i hi' : ∃ e key av, es[i]? = some e ∧ ob.xs.getD i [] = [.v key, av] ∧ e.key = key ∧ e.val.oneCell' = true ∧ Rv G av e.val)
        refine ⟨e, key, frzC σ D av, a1, ?_, a3, a4, frz_rc hr D a5⟩
        show (ob.xs.map fun r => r.map (frzC σ D)).getD i [] = _
        rw [hgetm, a2]; rfl
      obtain ⟨blk, base, cap, g1, g2, g3, g4, g5⟩ := (hr.heap.obj k ob h1').cells (by omega)
      have hget : ∀ i, (ob.xs.map fun r => r.map (frzC σ D)).getD i [] = (ob.xs.getD i []).map (frzC σ D) := fun i => by
        simp only [List.getD, List.getElem?_map]
        cases ob.xs[i]? <;> rfl
      refine .of (by show 0 < ob.sz; omega) ⟨blk, base, cap, g1, by simpa using g2, g3, fun i hi => ?_, ?_⟩
      · simp only [List.length_map] at hi
        rw [hget, List.length_map]; exact g4 i hi
      · cases blk with
        | none => exact g5
        | some b =>
          obtain ⟨vs, g6, g7, g8⟩ := g5
          refine ⟨vs, g6, g7, fun i j hi hj => ?_⟩
          simp only [List.length_map] at hi
          obtain ⟨g9, g10⟩ := g8 i j hi hj
          refine ⟨g9, ?_⟩
          rw [hget]
          have hjl : j < (ob.xs.getD i []).length := by rw [g4 i hi]; exact hj
          have : ((ob.xs.getD i []).map (frzC σ D)).getD j .any = frzC σ D ((ob.xs.getD i []).getD j .any) := by
            generalize ob.xs.getD i [] = l at hjl
            simp [List.getD, hjl]
          rw [this]
          exact frz_rc hr D g10
  · obtain ⟨ob, h1, rfl⟩ := hobj k ob' hk; exact hh.own k ob h1
  · obtain ⟨o1, h1, rfl⟩ := hobj k ob hk
    obtain ⟨o2, h2, rfl⟩ := hobj k' ob' hk'
    exact hh.inj k k' o1 o2 h1 h2
  · obtain ⟨ob, h1, rfl⟩ := hobj k ob' hk; exact hh.sep k ob h1
theorem s_frz {c : Code} {Q : Exit → AS → Prop} (D : Nat → Bool) (k : SP P B c (σ.frz D) Q) : SP P B c σ Q := fun D' G w a hr => k D' _ w a (hr.frz D)
end frz

theorem s_nil {P : Program} {B : Base} {c : Code} {σ : AS} {Q : Exit → AS → Prop} (t id : Nat) (e : TypeId) (sz : Nat) (h : lk σ.slots t = some (.v (.slice none 0 0))) (hid : id ∉ σ.ids) (k : SP P B c ⟨σ.n, st σ.slots t (.ref id 0 0), (id, ⟨e, sz, []⟩) :: σ.objs, id :: σ.ids⟩ Q) (hz : 0 < sz := by decide) : SP P B c σ Q := fun D0 G w a hr => by
  have hn : G.loc id = none := by
    cases hl : G.loc id with
    | none => rfl
    | some l => exact absurd (hr.ids id (by rw [hl]; simp)) hid
  have hle : G.le (G.add id (none, 0, 0, sz)) := Gh.add_le hn
  have hh := hr.heap
  have hold : ∀ k ob, lk ((id, (⟨e, sz, []⟩ : AObj)) :: σ.objs) k = some ob → k = id ∧ ob = ⟨e, sz, []⟩ ∨ k ≠ id ∧ lk σ.objs k = some ob := fun k ob hk => by
    simp only [lk] at hk
    split at hk
    · rename_i e1; cases hk; exact .inl ⟨e1.symm, rfl⟩
    · rename_i e1; exact .inr ⟨Ne.symm e1, hk⟩
  have hloc : ∀ k, k ≠ id → (G.add id (none, 0, 0, sz)).loc k = G.loc k := fun k hk => if_neg hk
  have hl0 : (G.add id (none, 0, 0, sz)).loc id = some (none, 0, 0, sz) := Gh.add_self
  refine k D0 (G.add id (none, 0, 0, sz)) w a ⟨hr.n, fun s av hs => ?_, hr.defers, ⟨hh.os, hh.tape, hh.output, hh.size, hh.old, fun k ob hk => ?_, fun k ob hk b base cap z hl => ?_, fun k k' ob ob' hk hk' b x y hl hl' => ?_, hh.st, fun k ob hk b x hl => ?_, hh.fresh, hh.keep, fun k l hk => hle.loc _ _ (hh.fix k l hk), hh.pin, hh.base⟩, fun k hk => ?_⟩
  · rw [show (⟨σ.n, st σ.slots t (.ref id 0 0), (id, ⟨e, sz, []⟩) :: σ.objs, id :: σ.ids⟩ : AS).slots = st σ.slots t (.ref id 0 0) from rfl, lk_st] at hs
    split at hs
    · rename_i e1; subst e1; cases hs
      obtain ⟨h1, h2⟩ := hr.slot t _ h
      refine ⟨h1, ?_⟩
      rw [h2.v_eq]
      exact .ref id 0 0 none 0 0 sz none hl0 (Nat.le_refl _) (by omega) (fun h => by omega) (fun _ => rfl)
    · obtain ⟨h1, h2⟩ := hr.slot s av hs
      exact ⟨h1, h2.mono hle⟩
  · rcases hold k ob hk with ⟨rfl, rfl⟩ | ⟨h1, h2⟩
    · exact .of hz ⟨none, 0, 0, hl0, Nat.le_refl _, by omega, fun i hi => by simp at hi, rfl⟩
    · exact (hh.obj k ob h2).mono hle fun _ _ _ _ _ => rfl
  · rcases hold k ob hk with ⟨rfl, rfl⟩ | ⟨h1, h2⟩
    · rw [hl0] at hl; cases hl
    · rw [hloc k h1] at hl; exact hh.own k ob h2 _ _ _ _ hl
  · rcases hold k ob hk with ⟨rfl, rfl⟩ | ⟨h1, h2⟩
    · rw [hl0] at hl; cases hl
    · rcases hold k' ob' hk' with ⟨rfl, rfl⟩ | ⟨h3, h4⟩
      · rw [hl0] at hl'; cases hl'
      · rw [hloc k h1] at hl; rw [hloc k' h3] at hl'
        exact hh.inj k k' ob ob' h2 h4 _ _ _ hl hl'
  · rcases hold k ob hk with ⟨rfl, rfl⟩ | ⟨h1, h2⟩
    · rw [hl0] at hl; cases hl
    · rw [hloc k h1] at hl; exact hh.sep k ob h2 _ _ hl
  · by_cases h1 : k = id
    · subst h1; exact List.mem_cons_self
    · rw [hloc k h1] at hk; exact List.mem_cons_of_mem _ (hr.ids k hk)
theorem rv_nil0 {G : Gh} (sz : Nat) : Rv G (.sl sz []) (.slice none 0 0) := .sl sz [] none 0 0 (fun _ _ => undef) rfl (Nat.le_refl _) (by unfold AMax; omega) (fun _ => rfl) (fun i hi => by simp at hi) (fun h => by simp at h) (fun i j hi => by simp at hi) (fun i j hi => by simp at hi)
theorem s_cell {P : Program} {B : Base} {c : Code} {σ : AS} {Q : Exit → AS → Prop} (k e j sz : Nat) {ob : AObj} (hk : lk σ.objs k = some ob) (h : (ob.xs.getD e []).getD j .any = .v (.slice none 0 0)) (kk : SP P B c ⟨σ.n, σ.slots, st σ.objs k { ob with xs := ob.xs.set e ((ob.xs.getD e []).set j (.sl sz [])) }, σ.ids⟩ Q) (hz : 0 < ob.sz := by exact Nat.succ_pos _) : SP P B c σ Q := fun D0 G w a hr => by
  have hh := hr.heap
  have hold : ∀ q ob', lk (st σ.objs k { ob with xs := ob.xs.set e ((ob.xs.getD e []).set j (.sl sz [])) }) q = some ob' → ∃ ob0, lk σ.objs q = some ob0 ∧ ((q = k ∧ ob0 = ob ∧ ob' = { ob with xs := ob.xs.set e ((ob.xs.getD e []).set j (.sl sz [])) }) ∨ ob' = ob0) := fun q ob' hq => by
    rw [lk_st] at hq
    split at hq
    · rename_i e1; subst e1; cases hq; exact ⟨ob, hk, .inl ⟨rfl, rfl, rfl⟩⟩
    · exact ⟨ob', hq, .inr rfl⟩
  refine kk D0 G w a ⟨hr.n, hr.slot, hr.defers, ⟨hh.os, hh.tape, hh.output, hh.size, hh.old, fun q ob' hq => ?_, fun q ob' hq => ?_, fun q q' ob1 ob2 hq hq' => ?_, hh.st, fun q ob' hq => ?_, hh.fresh, hh.keep, hh.fix, hh.pin, hh.base⟩, hr.ids⟩
  · obtain ⟨ob0, h1, h2⟩ := hold q ob' hq
    rcases h2 with ⟨rfl, rfl, rfl⟩ | rfl
    · obtain ⟨blk, base, cap, g1, g2, g3, g4, g5⟩ := (hh.obj q _ h1).cells hz
      have hget : ∀ i, (ob0.xs.set e ((ob0.xs.getD e []).set j (.sl sz []))).getD i [] = if i = e ∧ e < ob0.xs.length then (ob0.xs.getD e []).set j (.sl sz []) else ob0.xs.getD i [] := fun i => by
        by_cases h1 : i = e
        · subst h1
          by_cases h2 : i < ob0.xs.length
          · simp [List.getD, h2]
          · simp [List.getD, h2]
        · simp [List.getD, List.getElem?_set, Ne.symm h1, h1]
      refine .of hz ⟨blk, base, cap, g1, by simpa using g2, g3, fun i hi => ?_, ?_⟩
      · simp only [List.length_set] at hi
        rw [hget]
        split
        · rename_i h2; rw [List.length_set]; obtain ⟨rfl, _⟩ := h2; exact g4 _ hi
        · exact g4 i hi
      · cases blk with
        | none => exact g5
        | some b =>
          obtain ⟨vs, g6, g7, g8⟩ := g5
          refine ⟨vs, g6, g7, fun i l hi hl => ?_⟩
          simp only [List.length_set] at hi
          obtain ⟨g9, g10⟩ := g8 i l hi hl
          refine ⟨g9, ?_⟩
          rw [hget]
          split
          · rename_i h2
            obtain ⟨rfl, h3⟩ := h2
            by_cases hjl : l = j
            · subst hjl
              rw [h] at g10
              have hlen : l < (ob0.xs.getD i []).length := by rw [g4 i hi]; exact hl
              have : ((ob0.xs.getD i []).set l (.sl sz [])).getD l .any = .sl sz [] := by
                generalize ob0.xs.getD i [] = r at hlen
                simp [List.getD, hlen]
              rw [this, g10.v_eq]
              exact rv_nil0 sz
            · have : ((ob0.xs.getD i []).set j (.sl sz [])).getD l .any = (ob0.xs.getD i []).getD l .any := by simp [List.getD, List.getElem?_set, Ne.symm hjl]
              rw [this]; exact g10
          · exact g10
    · exact hh.obj q _ h1
  · obtain ⟨ob0, h1, _⟩ := hold q ob' hq; exact fun b base cap z hl => hh.own q ob0 h1 b base cap z hl
  · obtain ⟨o1, h1, _⟩ := hold q ob1 hq
    obtain ⟨o2, h2, _⟩ := hold q' ob2 hq'
    exact fun b x y => hh.inj q q' o1 o2 h1 h2 b x y
  · obtain ⟨ob0, h1, _⟩ := hold q ob' hq; exact fun b x hl => hh.sep q ob0 h1 b x hl
theorem post_ret {TT : TTab} {fn : Func} {res av : AV} {e : Exit} {σ : AS} {rs : List ResultVar} (he : e = .normal ∨ e = .ret) (hr : fn.results.toList = rs) (h1 : retA TT σ rs = some av) (h2 : σ.shut (fun _ => true) av = some res) : PostP TT fn res e σ := ⟨he, av, by rw [hr]; exact h1, h2⟩
theorem s_eq {P : Program} {B : Base} {c : Code} {σ τ : AS} {Q : Exit → AS → Prop} (h : σ = τ) (k : SP P B c τ Q) : SP P B c σ Q := h ▸ k
theorem s_weak {P : Program} {B : Base} {c : Code} {σ : AS} {Q : Exit → AS → Prop} (τ : AS) (h : Weak σ τ) (k : SP P B c τ Q) (hI : B.I0 = [] := by assumption) : SP P B c σ Q := sp_weak (by rw [hI]; exact h) k
end Go.Proofs.YtafikekndefjcaaDoor
/- Am18: An abstract machine for the text, part eighteen: calls that write what the caller holds; loops over functions; plain lemmas over any program; no condition. -/
namespace Go.Proofs.YtafikekndefjcaaDoor
set_option linter.unusedVariables false
set_option linter.unusedSimpArgs false
set_option linter.unusedSectionVars false
open Go.RowKit

section sub
variable {P : Program} {TT : TTab} {PT : PTab} {B : Base} {G : Gh} {σ : AS} {w : World} {a : Act}
def blocks (G : Gh) (objs : List (Nat × AObj)) : List Nat := objs.filterMap fun p => match G.loc p.1 with
  | some (some b, _) => some b
  | _ => none
theorem mem_blocks {G : Gh} {objs : List (Nat × AObj)} {b : Nat} : b ∈ blocks G objs ↔ ∃ k ob x, lk objs k = some ob ∧ G.loc k = some (some b, x) := by
  unfold blocks
  rw [List.mem_filterMap]
  constructor
  · rintro ⟨⟨k, ob⟩, h1, h2⟩
    obtain ⟨y, hy⟩ := lk_mem h1
    refine ⟨k, y, ?_⟩
    simp only at h2
    split at h2
    · rename_i b' x hl; cases h2; exact ⟨x, hy, hl⟩
    · cases h2
  · rintro ⟨k, ob, x, h1, h2⟩
    exact ⟨(k, ob), mem_lk h1, by simp only [h2]⟩
def Base.sub (G : Gh) (σ : AS) (w : World) (ro : Option Nat) : Base := { w0 := w, S0 := G.S, bs := blocks G σ.objs, L0 := G.loc, I0 := σ.ids, D := [], ro := ro }
theorem R.isCells (hr : R B G σ w a) {k : Nat} {ob : AObj} (hk : lk σ.objs k = some ob) {b : Nat} {x : Nat × Nat × Nat} (hl : G.loc k = some (some b, x)) : ∃ o : Obj, ((∃ vs, o = .cells vs ob.t (0, 0)) ∨ ∃ es c, o = .map es c) ∧ w.heap[b]? = some o := (hr.heap.obj k ob hk).at_ hl
theorem R.not_block (hr : R B G σ w a) {l : Nat} {o : Obj} (hl : w.heap[l]? = some o) (ho : (∀ c t f, o ≠ .cells c t f) ∧ ∀ es c, o ≠ .map es c) : l ∉ blocks G σ.objs := fun hb => by
  obtain ⟨k, ob, x, h1, h2⟩ := mem_blocks.1 hb
  obtain ⟨o', h4, h3⟩ := hr.isCells h1 h2
  rw [hl] at h3
  cases h3
  rcases h4 with ⟨_, rfl⟩ | ⟨_, _, rfl⟩
  · exact ho.1 _ _ _ rfl
  · exact ho.2 _ _ rfl
theorem R.sub (hr : R B G σ w a) (ro : Option Nat) {n : Nat} {slots : List (Nat × AV)} {a' : Act} (hn : a'.tmps.size = n) (hs : ∀ t av, lk slots t = some av → t < n ∧ Rv G av (a'.tmps.getD t undef)) (hd : a'.defers = []) :
    R ((Base.sub G σ w ro).d []) G ⟨n, slots, σ.objs, σ.ids⟩ w a' := by
  have hh := hr.heap
  exact ⟨hn, hs, hd, ⟨rfl, rfl, rfl, Nat.le_refl _, fun _ _ _ => rfl, hh.obj, fun k o hk b base cap sz hl => .inr (mem_blocks.2 ⟨k, o, _, hk, hl⟩), hh.inj, hh.st, hh.sep, fun b o u h => .inl h, fun b o u h => h, fun k l h => h, fun r hr => (by cases hr), ⟨List.nodup_nil, fun k l h => hr.ids k (by
    have h' : G.loc k = some l := h
    rw [h']; simp), fun g l hg => ⟨fun j hj => hh.keep _ _ _ ((hh.base.2.2 g l hg).1 j hj), (hh.base.2.2 g l hg).2⟩⟩⟩, hr.ids⟩
theorem R.back (hr : R B G σ w a) {ro : Option Nat} {τ : AS} {G2 : Gh} {w2 : World} {a2 : Act} (h2 : R ((Base.sub G σ w ro).d []) G2 τ w2 a2) : G.le G2 ∧ R B G2 ⟨σ.n, σ.slots, τ.objs, τ.ids⟩ w2 a := by
  have hh := hr.heap
  have hk := h2.heap
  have hle : G.le G2 := ⟨fun b o u h => hk.keep b o u h, fun k l h => hk.fix k l h⟩
  refine ⟨hle, hr.n, fun t av ht => ⟨(hr.slot t av ht).1, (hr.slot t av ht).2.mono hle⟩, hr.defers, ⟨hk.os.trans hh.os, hk.tape.trans hh.tape, hk.output.trans hh.output, Nat.le_trans hh.size hk.size, fun b hb hn => ?_, hk.obj, fun k o hko b base cap sz hl => ?_, hk.inj, hk.st, hk.sep, fun b o u hs => ?_, fun b o u hs => hk.keep b o u (hh.keep b o u hs), fun k l h => hk.fix k l (hh.fix k l h), fun r hrD => ?_, hh.base⟩, h2.ids⟩
  · rw [← hh.old b hb hn]
    refine hk.old b (Nat.lt_of_lt_of_le hb hh.size) fun hbb => ?_
    obtain ⟨k, ob, x, h1, h3⟩ := mem_blocks.1 hbb
    rcases hh.own k ob h1 _ _ _ _ h3 with h | h
    · omega
    · exact hn h
  · rcases hk.own k o hko b base cap sz hl with h | h
    · exact .inl (Nat.le_trans hh.size h)
    · obtain ⟨k', ob, x, h1, h3⟩ := mem_blocks.1 h
      exact hh.own k' ob h1 _ _ _ _ h3
  · rcases hk.fresh b o u hs with h | h | h
    · exact hh.fresh b o u h
    · exact .inr (.inl (Nat.le_trans hh.size h))
    · obtain ⟨k', ob, x, h1, h3⟩ := mem_blocks.1 h
      exact .inr (hh.own k' ob h1 _ _ _ _ h3)
  · obtain ⟨h1, h3⟩ := hh.pin r hrD
    refine ⟨?_, h3⟩
    rw [← h1]
    exact hk.old r (Array.getElem?_eq_some_iff.1 h1).1 (hr.not_block h1 (by simp))
theorem lk_updMap (f : Nat → Option AObj) (q : Nat) : ∀ (l : List Nat) (objs : List (Nat × AObj)), lk (updO objs (l.map fun k => (k, f k))) q = if q ∈ l then f q else lk objs q
  | [], objs => by simp [updO]
  | k :: l, objs => by
    rw [List.map_cons]
    cases hk : f k with
    | none =>
      simp only [updO]
      rw [lk_updMap f q l, lk_dl]
      by_cases h : q ∈ l
      · rw [if_pos h, if_pos (List.mem_cons_of_mem _ h)]
      · rw [if_neg h]
        by_cases e : k = q
        · subst e; rw [if_pos rfl, if_pos List.mem_cons_self, hk]
        · rw [if_neg e, if_neg (by simp only [List.mem_cons, not_or]; exact ⟨fun h => e h.symm, h⟩)]
    | some o =>
      simp only [updO]
      rw [lk_updMap f q l, lk_st]
      by_cases h : q ∈ l
      · rw [if_pos h, if_pos (List.mem_cons_of_mem _ h)]
      · rw [if_neg h]
        by_cases e : k = q
        · subst e; rw [if_pos rfl, if_pos List.mem_cons_self, hk]
        · rw [if_neg e, if_neg (by simp only [List.mem_cons, not_or]; exact ⟨fun h => e h.symm, h⟩)]
def Gh.only (G : Gh) (ids : List Nat) : Gh := ⟨G.S, fun k => if k ∈ ids then G.loc k else none⟩
theorem R.forget (hr : R B G σ w a) : R { B with L0 := fun _ => none, I0 := [] } G σ w a :=
  ⟨hr.n, hr.slot, hr.defers, ⟨hr.heap.os, hr.heap.tape, hr.heap.output, hr.heap.size, hr.heap.old, hr.heap.obj, hr.heap.own, hr.heap.inj, hr.heap.st, hr.heap.sep, hr.heap.fresh, hr.heap.keep, fun k l h => (by cases h), hr.heap.pin, ⟨hr.heap.base.1, fun k l h => (by cases h), hr.heap.base.2.2⟩⟩, hr.ids⟩
theorem R.subF (hr : R B G σ w a) {fs ids : List Nat} {objs : List (Nat × AObj)} (hF : ∀ k, lk objs k = if k ∈ fs then lk σ.objs k else none) (hsub : ∀ k ∈ fs, k ∈ ids) (hcl : ∀ k ∈ fs, ∀ ob, lk σ.objs k = some ob → ∀ q ∈ idsLL ob.xs, q ∈ fs)
    {n : Nat} {slots : List (Nat × AV)} {a' : Act} (hn : a'.tmps.size = n) (hs : ∀ t av, lk slots t = some av → t < n ∧ Rv G av (a'.tmps.getD t undef) ∧ ∀ k ∈ av.ids, k ∈ ids) (hd : a'.defers = []) :
    R ((Base.sub (G.only ids) ⟨σ.n, [], objs, ids⟩ w none).d []) (G.only ids) ⟨n, slots, objs, ids⟩ w a' := by
  have h1 := hr.forget.weakG (τ := ⟨σ.n, [], objs, ids⟩) (fun k => k) rfl (fun t av ht => by cases ht) (fun k ob hk => by
    replace hk : lk objs k = some ob := hk
    rw [hF] at hk
    split at hk
    · rename_i hkf
      exact ⟨by rw [renLL_id]; exact hk, hsub k hkf, fun q hq => hsub q (hcl k hkf ob hk q hq)⟩
    · cases hk) (fun k ob k' ob' _ _ e => e) (fun k hk => by cases hk)
  exact R.sub h1 none hn (fun t av ht => ⟨(hs t av ht).1, by
    obtain ⟨_, h3, h4⟩ := hs t av ht
    refine Rv.renamed (G := G) (G' := G.only ids) (fun k => k) (fun _ _ _ h => h) (by rw [AV.ren_id]; exact h3) fun k hk l hl => ?_
    show (if k ∈ ids then G.loc k else none) = some l
    rw [if_pos (h4 k hk)]; exact hl⟩) hd
theorem R.backF (hr : R B G σ w a) {fs ids : List Nat} {objs : List (Nat × AObj)} (hF : ∀ k, lk objs k = if k ∈ fs then lk σ.objs k else none) (hsub : ∀ k ∈ fs, k ∈ ids) {τ : AS} {G2 : Gh} {w2 : World} {a2 : Act}
    (h2 : R ((Base.sub (G.only ids) ⟨σ.n, [], objs, ids⟩ w none).d []) G2 τ w2 a2) (hnew : ∀ k ∈ τ.ids, k ∉ fs → k ∉ σ.ids) :
    ∃ G', G2.le G' ∧ G.le G' ∧ R B G' (σ.upd (τ.ids.reverse.map fun k => (k, lk τ.objs k))) w2 a := by
  have hh := hr.heap
  have hk := h2.heap
  have hfix : ∀ k l, k ∈ fs → G.loc k = some l → G2.loc k = some l := fun k l hkf hl => hk.fix k l (by
    show (if k ∈ ids then G.loc k else none) = some l
    rw [if_pos (hsub k hkf)]; exact hl)
  have hin : ∀ k l, G2.loc k = some l → k ∈ τ.ids := fun k l hl => h2.ids k (by rw [hl]; simp)
  have hfin : ∀ k l, k ∈ fs → G.loc k = some l → k ∈ τ.ids := fun k l hkf hl => hin k l (hfix k l hkf hl)
  -- a live object that is not among what the call knows was not lent
  have hlive : ∀ k o, lk σ.objs k = some o → k ∉ τ.ids → k ∉ fs := fun k o ho hn hkf => by
    obtain ⟨blk, base, cap, hl, _⟩ := hh.obj k o ho
    exact hn (hfin k _ hkf hl)
  have hblk : ∀ b, b ∈ blocks (G.only ids) objs → ∃ k o x, k ∈ fs ∧ lk σ.objs k = some o ∧ G.loc k = some (some b, x) := fun b hb => by
    obtain ⟨k, o, x, h1, h3⟩ := mem_blocks.1 hb
    rw [hF] at h1
    split at h1
    · rename_i hkf
      have : (if k ∈ ids then G.loc k else none) = some (some b, x) := h3
      rw [if_pos (hsub k hkf)] at this
      exact ⟨k, o, x, hkf, h1, this⟩
    · cases h1
  have hother : ∀ k o b x, lk σ.objs k = some o → k ∉ τ.ids → G.loc k = some (some b, x) → b ∉ blocks (G.only ids) objs := fun k o b x ho hn hl hb => by
    obtain ⟨k', o', x', h1, h3, h4⟩ := hblk b hb
    have := hh.inj k k' o o' ho h3 b x x' hl h4
    subst this
    exact hlive k o ho hn h1
  let G' : Gh := ⟨G2.S, fun k => if k ∈ τ.ids then G2.loc k else G.loc k⟩
  have hle2 : G2.le G' := ⟨fun _ _ _ h => h, fun k l hl => by
    show (if k ∈ τ.ids then G2.loc k else G.loc k) = some l
    rw [if_pos (hin k l hl)]; exact hl⟩
  have hle : G.le G' := ⟨fun b o u h => hk.keep b o u h, fun k l hl => by
    show (if k ∈ τ.ids then G2.loc k else G.loc k) = some l
    split
    · rename_i hkt
      by_cases hkf : k ∈ fs
      · exact hfix k l hkf hl
      · exact absurd (hr.ids k (by rw [hl]; simp)) (hnew k hkt hkf)
    · exact hl⟩
  have hlo : ∀ k l, k ∈ τ.ids → G'.loc k = some l → G2.loc k = some l := fun k l hkt h => by
    have : (if k ∈ τ.ids then G2.loc k else G.loc k) = some l := h
    rw [if_pos hkt] at this; exact this
  have hln : ∀ k l, k ∉ τ.ids → G'.loc k = some l → G.loc k = some l := fun k l hkt h => by
    have : (if k ∈ τ.ids then G2.loc k else G.loc k) = some l := h
    rw [if_neg hkt] at this; exact this
  have hobj : ∀ k, lk (σ.upd (τ.ids.reverse.map fun k => (k, lk τ.objs k))).objs k = if k ∈ τ.ids then lk τ.objs k else lk σ.objs k := fun k => by
    have := lk_updMap (fun k => lk τ.objs k) k τ.ids.reverse σ.objs
    simp only [List.mem_reverse] at this
    exact this
  have hlt : ∀ k o b x, lk σ.objs k = some o → G.loc k = some (some b, x) → b < w.heap.size := fun k o b x ho hl => (hh.obj k o ho).lt hl
  have hsame : ∀ b, b < w.heap.size → b ∉ blocks (G.only ids) objs → w2.heap[b]? = w.heap[b]? := fun b h1 h3 => hk.old b h1 h3
  refine ⟨G', hle2, hle, hr.n, fun t av ht => ⟨(hr.slot t av ht).1, (hr.slot t av ht).2.mono hle⟩, hr.defers, ⟨hk.os.trans hh.os, hk.tape.trans hh.tape, hk.output.trans hh.output, Nat.le_trans hh.size hk.size, fun b hb hn => ?_, fun k o hko => ?_, fun k o hko b base cap sz hl => ?_, fun k k' o o' hko hko' b x y hl hl' => ?_, hk.st, fun k o hko b x hl p => ?_, fun b o u hs => ?_, fun b o u hs => hk.keep b o u (hh.keep b o u hs), fun k l h => hle.loc k l (hh.fix k l h), fun r hrD => ?_, hh.base⟩, fun k hkn => ?_⟩
  · rw [← hh.old b hb hn]
    refine hsame b (Nat.lt_of_lt_of_le hb hh.size) fun hbb => ?_
    obtain ⟨k, o, x, _, h1, h3⟩ := hblk b hbb
    rcases hh.own k o h1 _ _ _ _ h3 with h | h
    · omega
    · exact hn h
  · rw [hobj] at hko
    split at hko
    · exact (hk.obj k o hko).mono hle2 fun _ _ _ _ _ => rfl
    · rename_i hkt
      exact (hh.obj k o hko).mono hle fun b base cap sz hl => hsame b (hlt k o b _ hko hl) (hother k o b _ hko hkt hl)
  · rw [hobj] at hko
    split at hko
    · rename_i hkt
      rcases hk.own k o hko b base cap sz (hlo k _ hkt hl) with h | h
      · exact .inl (Nat.le_trans hh.size h)
      · obtain ⟨k', o', x, _, h1, h3⟩ := hblk b h
        exact hh.own k' o' h1 _ _ _ _ h3
    · rename_i hkt
      exact hh.own k o hko b base cap sz (hln k _ hkt hl)
  · rw [hobj] at hko hko'
    have mixed : ∀ k k' o o' x y, k ∈ τ.ids → k' ∉ τ.ids → lk τ.objs k = some o → lk σ.objs k' = some o' → G2.loc k = some (some b, x) → G.loc k' = some (some b, y) → False := fun k k' o o' x y h1 h3 h4 h5 h6 h7 => by
      obtain ⟨x1, x2, x3⟩ := x
      rcases hk.own k o h4 b _ _ _ h6 with h | h
      · have hlt' := hlt k' o' b y h5 h7
        have h8 : w.heap.size ≤ b := h
        omega
      · exact hother k' o' b y h5 h3 h7 h
    split at hko
    · rename_i hkt
      split at hko'
      · rename_i hkt'
        exact hk.inj k k' o o' hko hko' b x y (hlo k _ hkt hl) (hlo k' _ hkt' hl')
      · rename_i hkt'
        exact (mixed k k' o o' x y hkt hkt' hko hko' (hlo k _ hkt hl) (hln k' _ hkt' hl')).elim
    · rename_i hkt
      split at hko'
      · rename_i hkt'
        exact (mixed k' k o' o y x hkt' hkt hko' hko (hlo k' _ hkt' hl') (hln k _ hkt hl)).elim
      · rename_i hkt'
        exact hh.inj k k' o o' hko hko' b x y (hln k _ hkt hl) (hln k' _ hkt' hl')
  · rw [hobj] at hko
    split at hko
    · rename_i hkt
      exact hk.sep k o hko b x (hlo k _ hkt hl) p
    · rename_i hkt
      have hl0 := hln k _ hkt hl
      show G2.S b p = none
      cases hs : G2.S b p with
      | none => rfl
      | some u =>
        exfalso
        rcases hk.fresh b p u hs with h | h | h
        · have h1 : G.S b p = some u := h
          rw [hh.sep k o hko b x hl0 p] at h1; cases h1
        · have h1 := hlt k o b x hko hl0
          have h3 : w.heap.size ≤ b := h
          omega
        · exact hother k o b x hko hkt hl0 h
  · rcases hk.fresh b o u hs with h | h | h
    · exact hh.fresh b o u h
    · exact .inr (.inl (Nat.le_trans hh.size h))
    · obtain ⟨k', o', x, _, h1, h3⟩ := hblk b h
      obtain ⟨x1, x2, x3⟩ := x
      exact .inr (hh.own k' o' h1 _ _ _ _ h3)
  · obtain ⟨h1, h3⟩ := hh.pin r hrD
    refine ⟨?_, h3⟩
    rw [← h1]
    refine hsame r (Array.getElem?_eq_some_iff.1 h1).1 fun hb => ?_
    obtain ⟨k, o, x, _, h4, h5⟩ := hblk r hb
    exact hr.not_block h1 (by simp) (mem_blocks.2 ⟨k, o, x, h4, h5⟩)
  · show k ∈ updI σ.ids (τ.ids.reverse.map fun k => (k, lk τ.objs k))
    rw [updI_mem]
    by_cases hkt : k ∈ τ.ids
    · left; simp only [List.map_map, List.mem_map, Function.comp]; exact ⟨k, List.mem_reverse.2 hkt, rfl⟩
    · right
      refine hr.ids k fun h0 => hkn ?_
      show (if k ∈ τ.ids then G2.loc k else G.loc k) = none
      rw [if_neg hkt]; exact h0
theorem R.dropD {D : List Nat} (hr : R (B.d D) G σ w a) : R (B.d []) G σ w { a with defers := [] } := by
  have hh := hr.heap
  exact ⟨hr.n, hr.slot, rfl, ⟨hh.os, hh.tape, hh.output, hh.size, hh.old, hh.obj, hh.own, hh.inj, hh.st, hh.sep, hh.fresh, hh.keep, hh.fix, fun r hr => (by cases hr), ⟨List.nodup_nil, hh.base.2⟩⟩, hr.ids⟩
theorem R.turn (hr : R B G σ w a) {l : Nat} {o o' : Obj} (hlt : l < B.w0.heap.size) (hl : w.heap[l]? = some o') (ho : (∀ c t f, o' ≠ .cells c t f) ∧ ∀ es c, o' ≠ .map es c) : R { B with w0 := B.w0.putObj l o } G σ (w.putObj l o) a := by
  have hh := hr.heap
  have hoth : ∀ b, b ≠ l → (w.putObj l o).heap[b]? = w.heap[b]? := fun b hb => World.putObj_heap_other hb
  have hlw := (Array.getElem?_eq_some_iff.1 hl).1
  refine ⟨hr.n, hr.slot, hr.defers, ⟨hh.os, hh.tape, hh.output, by simpa using hh.size, fun b hb hn => ?_, fun k ob hk => (hh.obj k ob hk).mono (Gh.le.refl G) fun b base cap sz hlo => hoth b fun e => ?_, fun k ob hk b base cap sz hlo => ?_, hh.inj, fun b p u hs => ?_, hh.sep, fun b p u hs => ?_, hh.keep, hh.fix, fun r hrD => ?_, hh.base⟩, hr.ids⟩
  · show (w.putObj l o).heap[b]? = (B.w0.putObj l o).heap[b]?
    by_cases e : b = l
    · subst e; rw [World.putObj_heap_same hlw, World.putObj_heap_same hlt]
    · rw [hoth b e, World.putObj_heap_other e]
      exact hh.old b (by simpa using hb) hn
  · subst e
    obtain ⟨o2, h4, h1⟩ := hr.isCells hk hlo
    rw [hl] at h1; cases h1
    rcases h4 with ⟨_, rfl⟩ | ⟨_, _, rfl⟩
    · exact ho.1 _ _ _ rfl
    · exact ho.2 _ _ rfl
  · show (B.w0.putObj l o).heap.size ≤ b ∨ _
    rw [World.putObj_size]; exact hh.own k ob hk b base cap sz hlo
  · have h1 := hh.st b p u hs
    have hne : b ≠ l := fun e => by
      subst e
      unfold World.cell? at h1
      split at h1
      · rename_i h3; rw [hl] at h3; cases h3; exact ho.1 _ _ _ rfl
      · cases h1
    rw [← h1]; exact World.cell?_of_block (hoth b hne)
  · show _ ∨ (B.w0.putObj l o).heap.size ≤ b ∨ _
    rw [World.putObj_size]; exact hh.fresh b p u hs
  · obtain ⟨h1, h2⟩ := hh.pin r hrD
    refine ⟨?_, by show (B.w0.putObj l o).heap.size ≤ r; rw [World.putObj_size]; exact h2⟩
    rw [hoth r (by omega)]; exact h1
theorem R.turnNew (hr : R B G σ w a) {l : Nat} {o o' : Obj} (hge : B.w0.heap.size ≤ l) (hD : l ∉ B.D) (hl : w.heap[l]? = some o') (ho : (∀ c t f, o' ≠ .cells c t f) ∧ ∀ es c, o' ≠ .map es c) : R B G σ (w.putObj l o) a := by
  have hh := hr.heap
  have hoth : ∀ b, b ≠ l → (w.putObj l o).heap[b]? = w.heap[b]? := fun b hb => World.putObj_heap_other hb
  refine ⟨hr.n, hr.slot, hr.defers, ⟨hh.os, hh.tape, hh.output, by simpa using hh.size, fun b hb hn => ?_, fun k ob hk => (hh.obj k ob hk).mono (Gh.le.refl G) fun b base cap sz hlo => hoth b fun e => ?_, hh.own, hh.inj, fun b p u hs => ?_, hh.sep, hh.fresh, hh.keep, hh.fix, fun r hrD => ?_, hh.base⟩, hr.ids⟩
  · rw [hoth b (by omega)]; exact hh.old b hb hn
  · subst e
    obtain ⟨o2, h4, h1⟩ := hr.isCells hk hlo
    rw [hl] at h1; cases h1
    rcases h4 with ⟨_, rfl⟩ | ⟨_, _, rfl⟩
    · exact ho.1 _ _ _ rfl
    · exact ho.2 _ _ rfl
  · have h1 := hh.st b p u hs
    have hne : b ≠ l := fun e => by
      subst e
      unfold World.cell? at h1
      split at h1
      · rename_i h3; rw [hl] at h3; cases h3; exact ho.1 _ _ _ rfl
      · cases h1
    rw [← h1]; exact World.cell?_of_block (hoth b hne)
  · obtain ⟨h1, h2⟩ := hh.pin r hrD
    exact ⟨(hoth r (fun e => hD (e ▸ hrD))).trans h1, h2⟩
theorem R.pinNew {r : Nat} {D : List Nat} (hr : R (B.d D) G σ w a) (hge : B.w0.heap.size ≤ r) (hD : r ∉ D) (hl : w.heap[r]? = some (.deferred (some []))) : R (B.d (r :: D)) G σ w { a with defers := mark r :: a.defers } := by
  have hh := hr.heap
  refine ⟨hr.n, hr.slot, by show mark r :: a.defers = mark r :: D.map mark; rw [hr.defers]; rfl, ⟨hh.os, hh.tape, hh.output, hh.size, hh.old, hh.obj, hh.own, hh.inj, hh.st, hh.sep, hh.fresh, hh.keep, hh.fix, fun q hq => ?_, ⟨List.nodup_cons.2 ⟨hD, hh.base.1⟩, hh.base.2⟩⟩, hr.ids⟩
  rcases List.mem_cons.1 hq with rfl | hq
  · exact ⟨hl, hge⟩
  · exact hh.pin q hq
theorem R.name (hr : R B G σ w a) {yk : Nat} (hy : yk ∉ σ.ids) (x : Option Nat × Nat × Nat × Nat) : R B (G.add yk x) ⟨σ.n, σ.slots, σ.objs, yk :: σ.ids⟩ w a := by
  have hn := hr.fresh hy
  have hle : G.le (G.add yk x) := Gh.add_le hn
  have hh := hr.heap
  have hloc : ∀ k ob l, lk σ.objs k = some ob → (G.add yk x).loc k = some l → G.loc k = some l := fun k ob l hk hl => by
    obtain ⟨blk, base, cap, h1, _⟩ := hh.obj k ob hk
    have : k ≠ yk := fun e => by rw [e, hn] at h1; cases h1
    have h2 : (G.add yk x).loc k = G.loc k := if_neg this
    rw [h2] at hl; exact hl
  refine ⟨hr.n, fun t av ht => ⟨(hr.slot t av ht).1, (hr.slot t av ht).2.mono hle⟩, hr.defers, ⟨hh.os, hh.tape, hh.output, hh.size, hh.old, fun k ob hk => (hh.obj k ob hk).mono hle fun _ _ _ _ _ => rfl, fun k ob hk b base cap sz hl => hh.own k ob hk b base cap sz (hloc k ob _ hk hl), fun k k' ob ob' hk hk' b y z hl hl' => hh.inj k k' ob ob' hk hk' b y z (hloc k ob _ hk hl) (hloc k' ob' _ hk' hl'), hh.st, fun k ob hk b y hl => hh.sep k ob hk b y (hloc k ob _ hk hl), hh.fresh, hh.keep, fun k l h => hle.loc _ _ (hh.fix k l h), hh.pin, hh.base⟩, fun k hk => ?_⟩
  by_cases e : k = yk
  · subst e; exact List.mem_cons_self
  · have h2 : (G.add yk x).loc k = G.loc k := if_neg e
    rw [h2] at hk
    exact List.mem_cons_of_mem _ (hr.ids k hk)
theorem R.more (hr : R B G σ w a) {w' : World} (hb : Below w.heap.size w w') : R B G σ w' a :=
  (hr.after (S' := G.S) hb (fun _ _ _ h => h) (fun b p u h => by
    have := hr.heap.st b p u h
    exact (hb.cell (World.block_lt_of_cell? _ _ this)).trans this) (fun _ _ _ h => .inl h)).2

variable {Q : Exit → AS → Prop} {ops : Array Oper}
theorem spl_enter (hTT : TTok P TT) {o : Oper} {r : List Oper} {x : Operand} {args : Array Operand} {ts : Array TypeId} {f : FuncId} {fn : Func} {c : Code} {L : List AV} (hd : dstOk σ o = true) (hw : wantA σ ops o = some true) (ho : o.op = .call { callee := .value x, args := args, argTypes := ts })
    (hfn : fnB P f = true) (hf : P.funcs[f]? = some fn) (hb : fn.body = some c) (hen : Enters P o σ f L) (hn : L.length ≤ fn.ntmps)
    (h : ∀ B' : Base, B'.I0 = σ.ids → B'.ro = none → SP P B' c ⟨fn.ntmps, enumA 0 L, σ.objs, σ.ids⟩ (fun e τ => (e = .normal ∨ e = .ret) ∧ ∃ av, retA TT τ fn.results.toList = some av ∧ SPL P B ops r (AS.put ⟨σ.n, σ.slots, τ.objs, τ.ids⟩ o.dst av) Q)) :
    SPL P B ops (o :: r) σ Q := fun D G w a hr => by
  unfold wpListIn
  rw [if_pos (wantA_ok hr hw)]
  obtain ⟨argv, hop, h1, h2⟩ := hen (B.d D) G w a hr
  refine ⟨fun _ _ => trivial, ?_⟩
  rw [show (FR B.ro).round = B.ro from rfl, Oper.semAt_eq B.ro a.eval o (fun c hc => by rw [ho] at hc; cases hc), hop, Oper.uponIn_enter]
  refine ⟨fun e => (by cases e), FR_calls.2 ?_⟩
  have hs := hr.sub none (n := fn.ntmps) (slots := enumA 0 L) (a' := { tmps := argv ++ Array.replicate (fn.ntmps - argv.size) undef, defers := [] }) (by simp; omega) (entry_slots hn h1 h2) rfl
  refine (call_sp hTT hf hb rfl hs (K := fun av τ => SPL P B ops r (AS.put ⟨σ.n, σ.slots, τ.objs, τ.ids⟩ o.dst av) Q) (h (Base.sub G σ w none) rfl rfl)).mono fun e w' hq => ?_
  obtain ⟨v, G', τ, av, a', rfl, hr', hv, hK⟩ := hq
  obtain ⟨hle, hb'⟩ := hr.back hr'
  exact hK D G' w' _ (hb'.put (fun d hdd => R.dst (G := G) (w := w) (a := a) (σ := σ) hd d hdd) hv)
theorem spl_call (hTT : TTok P TT) {o : Oper} {r : List Oper} {x : Operand} {args : Array Operand} {ts : Array TypeId} {f : FuncId} {fn : Func} {c : Code} {avs cs : List AV} (hd : dstOk σ o = true) (hw : wantA σ ops o = some true) (ho : o.op = .call { callee := .value x, args := args, argTypes := ts })
    (hfn : fnB P f = true) (hf : P.funcs[f]? = some fn) (hb : fn.body = some c) (hx : σ.callee x = some (f, cs)) (ha : σ.evs args.toList = some avs) (hn : (avs ++ cs).length ≤ fn.ntmps)
    (h : ∀ B' : Base, B'.I0 = σ.ids → B'.ro = none → SP P B' c ⟨fn.ntmps, enumA 0 (avs ++ cs), σ.objs, σ.ids⟩ (fun e τ => (e = .normal ∨ e = .ret) ∧ ∃ av, retA TT τ fn.results.toList = some av ∧ SPL P B ops r (AS.put ⟨σ.n, σ.slots, τ.objs, τ.ids⟩ o.dst av) Q)) :
    SPL P B ops (o :: r) σ Q :=
  spl_enter hTT hd hw ho hfn hf hb (enters_ok ho hfn hx ha) hn h

/-! ### Loops over functions -/
def setps (slots : List (Nat × AV)) : List Tmp → List AV → List (Nat × AV)
  | t :: ts, v :: vs => setps (st slots t v) ts vs
  | _, _ => slots
theorem setps_ok {G : Gh} {n : Nat} : ∀ (ps : List Tmp) (vs : List AV) (us : List Value) (slots : List (Nat × AV)) (tmps : Array Value), (∀ t ∈ ps, t < n) → us.length = vs.length → (∀ i, i < vs.length → Rv G (vs.getD i .any) (us.getD i undef)) → tmps.size = n →
    (∀ t av, lk slots t = some av → t < n ∧ Rv G av (tmps.getD t undef)) → ((ps.zip us).foldl (fun tmps (p : Tmp × Value) => tmps.setIfInBounds p.1 p.2) tmps).size = n ∧ ∀ t av, lk (setps slots ps vs) t = some av → t < n ∧ Rv G av (((ps.zip us).foldl (fun tmps (p : Tmp × Value) => tmps.setIfInBounds p.1 p.2) tmps).getD t undef)
  | [], vs, us, slots, tmps, _, _, _, hs, h => by
    simp only [setps, List.zip_nil_left, List.foldl_nil]; exact ⟨hs, h⟩
  | t :: ts, [], us, slots, tmps, _, hl, _, hs, h => by
    have : us = [] := List.eq_nil_of_length_eq_zero hl
    subst this
    simp only [setps, List.zip_nil_right, List.foldl_nil]; exact ⟨hs, h⟩
  | t :: ts, v :: vs, [], slots, tmps, _, hl, _, hs, h => by simp at hl
  | t :: ts, v :: vs, u :: us, slots, tmps, hp, hl, hv, hs, h => by
    refine setps_ok ts vs us (st slots t v) (tmps.setIfInBounds t u) (fun q hq => hp q (List.mem_cons_of_mem _ hq)) (by simpa using hl) (fun i hi => by simpa using hv (i + 1) (by simpa using hi)) (by simpa using hs) fun q av hq => ?_
    rw [lk_st] at hq
    split at hq
    · rename_i e; subst e; cases hq
      have := hp t (by simp)
      refine ⟨this, ?_⟩
      have h0 := hv 0 (by simp)
      simpa [Array.getD_eq_getD_getElem?, Array.getElem?_setIfInBounds, Nat.lt_of_lt_of_eq this hs.symm] using h0
    · rename_i e
      obtain ⟨h1, h2⟩ := h q av hq
      refine ⟨h1, ?_⟩
      simpa [Array.getD_eq_getD_getElem?, Array.getElem?_setIfInBounds, e] using h2
def YieldOk (P : Program) (B : Base) (yk n : Nat) (slots : List (Nat × AV)) (ps : Array Tmp) (assign body : Code) : Prop :=
  ∀ (ops : Array Oper) (o : Oper) (r : List Oper) (σ : AS) (Q : Exit → AS → Prop) (x : Operand) (args : Array Operand) (ts : Array TypeId) (avs : List AV),
    dstOk σ o = true → wantA σ ops o = some true → o.op = .call { callee := .value x, args := args, argTypes := ts } → σ.ev x = some (.yld yk) → σ.evs args.toList = some avs → avs.length = ps.size →
    (∀ B1 : Base, B1.I0 = σ.ids → B1.ro.isSome = true → SP P B1 assign ⟨n, setps slots ps.toList avs, σ.objs, σ.ids⟩ (fun e τ1 => e = .normal ∧ ∀ B2 : Base, B2.I0 = σ.ids → B2.ro.isSome = true → SP P B2 body τ1 (fun e τ2 => e = .normal ∧ SPL P B ops r (AS.put ⟨σ.n, σ.slots, τ2.objs, τ2.ids⟩ o.dst (.v (.bool true))) Q))) →
    SPL P B ops (o :: r) σ Q

theorem putObj_back {w : World} {l : Nat} {x y : Obj} (h : w.heap[l]? = some y) : (w.putObj l x).putObj l y = w := by
  have hlt := (Array.getElem?_eq_some_iff.1 h).1
  have : ((w.heap.setIfInBounds l x).setIfInBounds l y) = w.heap := by
    apply Array.ext_getElem?
    intro i
    by_cases e : l = i
    · subst e
      have := (Array.getElem?_eq_some_iff.1 h).2
      simp [h, hlt, this]
    · simp [Array.getElem?_setIfInBounds, e]
  simp only [World.putObj, this]

theorem yield_ok {l yk : Nat} {G1 : Gh} {σ1 : AS} {w1 : World} {a1 : Act} {D1 : List Nat} {B0 : Base} (h1 : R (B0.d D1) G1 σ1 w1 a1) {x0 : Nat × Nat × Nat} (hyk : G1.loc yk = some (some l, x0)) {n : Nat} {slots : List (Nat × AV)} {tmps : Array Value} (hts : tmps.size = n) (hsl : ∀ t av, lk slots t = some av → t < n ∧ Rv G1 av (tmps.getD t undef)) {ps : Array Tmp} (hps : ∀ t ∈ ps.toList, t < n) {assign body : Code} {fnid dd : Nat}
    (hrec : w1.heap[l]? = some (.loop { state := .ready, pending := none, fn := fnid, tmps := tmps, params := ps, assign := assign, body := body, defers := dd })) : YieldOk P (Base.sub G1 σ1 w1 none) yk n slots ps assign body := by
  intro ops o r σ Q x args ts avs hd hw ho hx ha hlen hround D G w a hr
  have hnl : l ∉ blocks G1 σ1.objs := h1.not_block hrec (by simp)
  have hlt1 := (Array.getElem?_eq_some_iff.1 hrec).1
  have hle1 : G1.le G := ⟨fun b o u h => hr.heap.keep b o u h, fun k l h => hr.heap.fix k l h⟩
  have hrw : w.heap[l]? = some (.loop { state := .ready, pending := none, fn := fnid, tmps := tmps, params := ps, assign := assign, body := body, defers := dd }) := (hr.heap.old l hlt1 hnl).trans hrec
  have hlt : l < w.heap.size := (Array.getElem?_eq_some_iff.1 hrw).1
  unfold wpListIn
  rw [if_pos (wantA_ok hr hw)]
  have hxv := hr.ev hx
  have hxe : a.eval x = .func (.yield l) #[] #[] := by
    generalize a.eval x = v at hxv
    cases hxv with
    | yld k l' y hk =>
      have := hle1.loc _ _ hyk
      rw [hk] at this; cases this; rfl
  obtain ⟨e1, e2⟩ := hr.evs ha
  refine ⟨fun _ _ => trivial, ?_⟩
  have hop : (execOp a.eval o).run P w = .ok (.round l fnid ((ps.zip (args.map a.eval)).foldl (fun tmps (t, v) => tmps.setIfInBounds t v) tmps) assign body) w := by
    have hy := run_yield (P := P) (args := args.map a.eval) hrw (by
      have : avs.length = args.size := by simpa using e1
      simp; omega)
    unfold execOp
    rw [ho]
    simp only [resolve, hxe, Deferred.ofValue, invoke, Sem.run_bind, Sem.run_pure, Result.andThen_ok]
    simp [hy]
  rw [show (FR (Base.sub G1 σ1 w1 none).ro).round = none from rfl, Oper.semAt_eq none a.eval o (fun c hc => by rw [ho] at hc; cases hc), hop, Oper.uponIn_round]
  refine ⟨fun e => (by cases e), roundIn_of_wpIn (F := FR none) trivial ?_⟩
  -- the round's frame
  obtain ⟨f1, f2⟩ := setps_ok (G := G) ps.toList avs (args.toList.map a.eval) slots tmps hps (by simpa using e1.symm) e2 hts (fun t av ht => ⟨(hsl t av ht).1, (hsl t av ht).2.mono hle1⟩)
  have hfold : (ps.zip (args.map a.eval)).foldl (fun tmps (t, v) => tmps.setIfInBounds t v) tmps = (ps.toList.zip (args.toList.map a.eval)).foldl (fun tmps (p : Tmp × Value) => tmps.setIfInBounds p.1 p.2) tmps := by
    rw [← Array.foldl_toList]; simp
  rw [hfold]
  have hs1 := hr.sub (some l) (n := n) (slots := setps slots ps.toList avs) (a' := { tmps := (ps.toList.zip (args.toList.map a.eval)).foldl (fun tmps (p : Tmp × Value) => tmps.setIfInBounds p.1 p.2) tmps, defers := [] }) f1 f2 rfl
  have hnl2 : l ∉ blocks G σ.objs := hr.not_block hrw (by simp)
  refine wpIn_mono (hround (Base.sub G σ w (some l)) rfl rfl [] G w _ hs1) fun e a2 w2 hq => ?_
  obtain ⟨D2, G2, τ1, hr2, rfl, hbody⟩ := hq
  have hr2' := (hr2.heap.old l hlt hnl2).trans hrw
  refine ⟨_, run_beginRound hr2' rfl, ?_⟩
  have ht2 := hr2.turn (l := l) (o := .loop { state := .busy, pending := none, fn := fnid, tmps := tmps, params := ps, assign := assign, body := body, defers := dd }) hlt hr2' (by simp)
  refine wpIn_mono (hbody { Base.sub G σ w (some l) with w0 := w.putObj l (.loop { state := .busy, pending := none, fn := fnid, tmps := tmps, params := ps, assign := assign, body := body, defers := dd }) } rfl rfl D2 G2 _ a2 ht2) fun e a3 w3 hq => ?_
  obtain ⟨D3, G3, τ2, hr3, rfl, hrest⟩ := hq
  have hr3' : w3.heap[l]? = some (.loop { state := .busy, pending := none, fn := fnid, tmps := tmps, params := ps, assign := assign, body := body, defers := dd }) := (hr3.heap.old l (by show l < (w.putObj l _).heap.size; rw [World.putObj_size]; exact hlt) hnl2).trans (World.putObj_heap_same hlt)
  refine ⟨_, _, run_endRound none hr3', ?_⟩
  have ht3 := hr3.turn (l := l) (o := .loop { state := .ready, pending := none, fn := fnid, tmps := tmps, params := ps, assign := assign, body := body, defers := dd }) (by show l < (w.putObj l _).heap.size; rw [World.putObj_size]; exact hlt) hr3' (by simp)
  have ht4 : R ((Base.sub G σ w (some l)).d D3) G3 τ2 (w3.putObj l (.loop { state := .ready, pending := none, fn := fnid, tmps := tmps, params := ps, assign := assign, body := body, defers := dd })) a3 := by
    have e := putObj_back (w := w) (l := l) (x := .loop { state := .busy, pending := none, fn := fnid, tmps := tmps, params := ps, assign := assign, body := body, defers := dd }) hrw
    have := ht3
    simp only [Base.d] at this ⊢
    rw [e] at this
    exact this
  obtain ⟨hle, hb'⟩ := hr.back ht4.dropD
  exact hrest D G3 _ _ (hb'.put (fun d hdd => R.dst (G := G) (w := w) (a := a) (σ := σ) hd d hdd) (.v (.bool true)))

theorem s_range (hTT : TTok P TT) {g : Operand} {ps : Array Tmp} {assign body : Code} {f : FuncId} {fn : Func} {c : Code} {cs : List AV} (yk : Nat) (hy : yk ∉ σ.ids) (hro : B.ro = none) (hg : σ.callee g = some (f, cs)) (hfn : fnB P f = true) (hf : P.funcs[f]? = some fn) (hb : fn.body = some c) (hn : (AV.yld yk :: cs).length ≤ fn.ntmps) (hps : ∀ t ∈ ps.toList, t < σ.n)
    (h : ∀ B' : Base, B'.I0 = yk :: σ.ids → B'.ro = none → YieldOk P B' yk σ.n σ.slots ps assign body → SP P B' c ⟨fn.ntmps, enumA 0 (.yld yk :: cs), σ.objs, yk :: σ.ids⟩ (fun e τ => (e = .normal ∨ e = .ret) ∧ ∃ av, retA TT τ fn.results.toList = some av ∧ Q .normal ⟨σ.n, σ.slots, τ.objs, τ.ids⟩)) :
    SP P B (.rangeFunc g ps assign body) σ Q := fun D G w a hr => by
  rw [hro]
  refine wpIn_rangeFunc fun fnid _ => ?_
  obtain ⟨W1, hW1⟩ : ∃ W1, (w.alloc (.deferred (some []))).alloc (.loop { state := .ready, pending := none, fn := fnid, tmps := a.tmps, params := ps, assign := assign, body := body, defers := w.heap.size }) = W1 := ⟨_, rfl⟩
  have hL1 : W1.heap[w.heap.size + 1]? = some (.loop { state := .ready, pending := none, fn := fnid, tmps := a.tmps, params := ps, assign := assign, body := body, defers := w.heap.size }) := by
    rw [← hW1]; have := World.alloc_heap_new (w.alloc (.deferred (some []))) (.loop { state := .ready, pending := none, fn := fnid, tmps := a.tmps, params := ps, assign := assign, body := body, defers := w.heap.size }); rwa [World.size_alloc] at this
  have hK1 : W1.heap[w.heap.size]? = some (.deferred (some [])) := by
    rw [← hW1]; exact (Below.heap_alloc _ _ _ (by simp)).trans (World.alloc_heap_new w _)
  have hb1 : Below w.heap.size w W1 := by
    rw [← hW1]; exact (((Below.refl _ w).alloc (Nat.le_refl _) _).alloc (by simp) _)
  obtain ⟨us, g1, g2, g3⟩ := callee_ok hr hg
  have hr1 := (hr.more hb1).name hy (some (w.heap.size + 1), 0, 0, 0)
  have hle1 : G.le (G.add yk (some (w.heap.size + 1), 0, 0, 0)) := Gh.add_le (hr.fresh hy)
  have hyk : (G.add yk (some (w.heap.size + 1), 0, 0, 0)).loc yk = some (some (w.heap.size + 1), 0, 0, 0) := Gh.add_self
  refine ⟨w.heap.size + 1, [mark w.heap.size], W1, { target := .fn (.func f) us.toArray, args := #[.func (.yield (w.heap.size + 1)) #[] #[]] }, W1, f, #[.func (.yield (w.heap.size + 1)) #[] #[]] ++ us.toArray, W1, ?_, ?_, fun _ _ => trivial, ?_, fun e => (by cases e), FR_calls.2 ?_⟩
  · rw [← hW1]; exact run_enterLoop_outer _ _ _ _ _
  · simp only [resolve, g1]
    simp [Deferred.ofValue, Act.eval]
  · simp [invoke, run_callFunc hfn]
  · have hY := yield_ok (P := P) (B0 := B) (D1 := D) (l := w.heap.size + 1) (yk := yk) hr1 hyk (n := σ.n) (slots := σ.slots) (tmps := a.tmps) hr.n hr1.slot hps hL1
    have hs := hr1.sub none (n := fn.ntmps) (slots := enumA 0 (.yld yk :: cs)) (a' := { tmps := (#[Value.func (.yield (w.heap.size + 1)) #[] #[]] ++ us.toArray) ++ Array.replicate (fn.ntmps - (#[Value.func (.yield (w.heap.size + 1)) #[] #[]] ++ us.toArray).size) undef, defers := [] })
      (by simp only [Array.size_append, Array.size_replicate, List.size_toArray, List.length_cons, List.length_nil] at hn ⊢; omega)
      (entry_slots hn (by simp [g2]) (fun i hi => by
        cases i with
        | zero => simpa using Rv.yld yk (w.heap.size + 1) (0, 0, 0) hyk
        | succ i =>
          have := (g3 i (by simpa using hi)).mono hle1
          have e : (#[Value.func (.yield (w.heap.size + 1)) #[] #[]] ++ us.toArray).getD (i + 1) undef = us.getD i undef := by
            simp [Array.getD_eq_getD_getElem?, Array.getElem?_append, List.getD]
          rw [e]; simpa using this)) rfl
    refine (call_sp hTT hf hb rfl hs (K := fun _ τ => Q .normal ⟨σ.n, σ.slots, τ.objs, τ.ids⟩) (h (Base.sub (G.add yk (some (w.heap.size + 1), 0, 0, 0)) ⟨σ.n, σ.slots, σ.objs, yk :: σ.ids⟩ W1 none) rfl rfl hY)).mono fun e w' hq => ?_
    obtain ⟨v, G', τ, av, a', rfl, hr', hv, hK⟩ := hq
    have hs0 : w.heap.size + 1 < W1.heap.size := (Array.getElem?_eq_some_iff.1 hL1).1
    have hL2 := (hr'.heap.old (w.heap.size + 1) hs0 (hr1.not_block hL1 (by simp))).trans hL1
    have hK2 := (hr'.heap.old w.heap.size (by show _ < W1.heap.size; omega) (hr1.not_block hK1 (by simp))).trans hK1
    obtain ⟨hle, hb'⟩ := hr1.back hr'
    have hsz : B.w0.heap.size ≤ w.heap.size := hr.heap.size
    have hDlt : ∀ q ∈ D, q < w.heap.size := fun q hq => (Array.getElem?_eq_some_iff.1 (hr.heap.pin q hq).1).1
    refine ⟨none, _, run_endLoop hL2 (by simp), w.heap.size :: D, G', ⟨σ.n, σ.slots, τ.objs, τ.ids⟩, ?_, hK⟩
    have ht := hb'.turnNew (l := w.heap.size + 1) (o := .loop { state := .exhausted, pending := none, fn := fnid, tmps := a.tmps, params := ps, assign := assign, body := body, defers := w.heap.size }) (by show B.w0.heap.size ≤ _; omega) (fun hin => by have := hDlt _ hin; omega) hL2 (by simp)
    exact ht.pinNew hsz (fun hin => by have := hDlt _ hin; omega) ((World.putObj_heap_other (by omega)).trans hK2)
end sub
end Go.Proofs.YtafikekndefjcaaDoor
/- Am18b: An abstract machine for the text, part eighteen b: rows written in place; more operations; plain lemmas over any program; no condition. -/
namespace Go.Proofs.YtafikekndefjcaaDoor
set_option linter.unusedVariables false
set_option linter.unusedSimpArgs false
set_option linter.unusedSectionVars false
open Go.RowKit

section rows
variable {P : Program} {σ : AS} {B : Base} {G : Gh} {w : World} {a : Act}
theorem R.rowsW (hr : R B G σ w a) {k m : Nat} {ob : AObj} (hz : 0 < ob.sz) (hk : lk σ.objs k = some ob) {b base cap : Nat} (hl : G.loc k = some (some b, base, cap, ob.sz)) {ys : List (List AV)} (hfit : m + ys.length ≤ ob.xs.length)
    (hrow : ∀ i, i < ys.length → (ys.getD i []).length = ob.sz) {f : Nat → Value} (hf : ∀ i j, i < ys.length → j < ob.sz → (f (i * ob.sz + j)).oneCell' = true ∧ Rv G ((ys.getD i []).getD j .any) (f (i * ob.sz + j))) :
    ∃ vs : Array Value, w.heap[b]? = some (.cells vs ob.t (0, 0)) ∧ base + m * ob.sz + ys.length * ob.sz ≤ vs.size ∧
      R B G (σ.upd [(k, some { ob with xs := spl ob.xs m ys })]) (w.setRow b (spl vs.toList (base + m * ob.sz) ((List.range (ys.length * ob.sz)).map f)).toArray) a := by
  obtain ⟨blk, ba, ca, g1, g2, g3, g4, g5⟩ := (hr.heap.obj k ob hk).cells hz
  rw [hl] at g1
  cases g1
  obtain ⟨vs, g6, g7, g8⟩ := g5
  have hcapm : (m + ys.length) * ob.sz ≤ cap * ob.sz := Nat.mul_le_mul_right _ (by omega)
  rw [Nat.add_mul] at hcapm
  have hfit2 : base + m * ob.sz + ((List.range (ys.length * ob.sz)).map f).length ≤ vs.toList.length := by simp; omega
  have hlen : (spl ob.xs m ys).length = ob.xs.length := spl_len hfit
  refine ⟨vs, g6, by omega, hr.n, fun s av hs => hr.slot s av hs, hr.defers, ?_, fun q hq => ?_⟩
  · obtain ⟨f1, f2, f3, f4, f5⟩ := setRow_frame w b (spl vs.toList (base + m * ob.sz) ((List.range (ys.length * ob.sz)).map f)).toArray
    refine hr.heap.step f1 f2 f3 (by rw [f4]; exact Nat.le_refl _) (Gh.le.refl G) rfl b k (fun q hq _ => f5 q hq) (.inr ⟨k, ob, _, hk, hl⟩) (fun q oq hq => ?_)
    simp only [AS.upd, updO, lk_st] at hq
    split at hq
    · rename_i eq; subst eq
      cases hq
      refine .inl ⟨rfl, .of hz ⟨some b, base, cap, hl, by simp only [hlen]; exact g2, g3, fun i hi => ?_, (spl vs.toList (base + m * ob.sz) ((List.range (ys.length * ob.sz)).map f)).toArray, ?_, ?_, fun i c hi hc => ?_⟩, fun b' x hl' => ?_⟩
      · simp only [hlen] at hi
        simp only [spl_getD hfit]
        split
        · exact hrow _ (by omega)
        · exact g4 i hi
      · simp [World.setRow, g6, Array.getElem?_modify]
      · simp only [List.size_toArray, spl_len hfit2, Array.length_toList]; exact g7
      · simp only [hlen] at hi
        replace hc : c < ob.sz := hc
        have hll : ((List.range (ys.length * ob.sz)).map f).length = ys.length * ob.sz := by simp
        have hget : (spl vs.toList (base + m * ob.sz) ((List.range (ys.length * ob.sz)).map f)).toArray.getD (base + (i * ob.sz + c)) undef = if m ≤ i ∧ i < m + ys.length then f ((i - m) * ob.sz + c) else vs.getD (base + (i * ob.sz + c)) undef := by
          have h1 := spl_getD hfit2 (base + (i * ob.sz + c)) undef
          have h2 : (spl vs.toList (base + m * ob.sz) ((List.range (ys.length * ob.sz)).map f)).toArray.getD (base + (i * ob.sz + c)) undef = (spl vs.toList (base + m * ob.sz) ((List.range (ys.length * ob.sz)).map f)).getD (base + (i * ob.sz + c)) undef := by simp [List.getD, Array.getD_eq_getD_getElem?]
          rw [h2, h1, hll]
          by_cases hin : m ≤ i ∧ i < m + ys.length
          · have h3 := dm_lt (show i - m < ys.length by omega) hc
            have h4 : (i - m) * ob.sz + m * ob.sz = i * ob.sz := by rw [← Nat.add_mul]; congr 1; omega
            rw [if_pos (by omega), if_pos hin]
            have e : base + (i * ob.sz + c) - (base + m * ob.sz) = (i - m) * ob.sz + c := by omega
            rw [e, map_getD _ _ _ h3]
          · rw [if_neg hin, if_neg ?_]
            · simp [List.getD, Array.getD_eq_getD_getElem?]
            · intro h5
              rcases Nat.lt_or_ge i m with h6 | h6
              · have h7 := dm_lt h6 hc; omega
              · have h7 : (m + ys.length) * ob.sz ≤ i * ob.sz := Nat.mul_le_mul_right _ (by omega)
                rw [Nat.add_mul] at h7; omega
        simp only [hget, spl_getD hfit]
        split
        · exact hf _ c (by omega) hc
        · exact g8 i c hi hc
      · rw [hl] at hl'; cases hl'; rfl
    · rename_i eq
      refine .inr ⟨Ne.symm eq, hq, fun b' x hl' e => eq ?_⟩
      subst e
      exact hr.heap.inj k q ob oq hk hq _ _ _ hl hl'
  · rw [AS.upd, updI_one]; exact .inr (hr.ids q hq)
theorem ref_at (hr : R B G σ w a) {k off n : Nat} {ob : AObj} {v : Value} (hz : 0 < ob.sz) (hk : lk σ.objs k = some ob) (hv : Rv G (.ref k off n) v) (hlt : off < ob.xs.length) :
    ∃ b base cap, G.loc k = some (some b, base, cap, ob.sz) ∧ v = .slice (some ⟨b, base + off * ob.sz, none⟩) n (cap - off) ∧ off + n ≤ cap ∧ ob.xs.length ≤ cap ∧ cap ≤ 9223372036854775807 := by
  cases hv with
  | ref _ _ _ blk base cap sz ad hl hle hcm hb' h0 =>
    obtain ⟨blk', ba, ca, g1, g2, g3, g4, g5⟩ := (hr.heap.obj k ob hk).cells hz
    rw [hl] at g1
    cases g1
    obtain ⟨b', e1, rfl⟩ := hb' (by omega)
    subst e1
    exact ⟨b', base, cap, hl, rfl, hle, g2, hcm⟩
theorem R.cut (hr : R B G σ w a) {k id off n : Nat} (hid : id ∉ σ.ids) {ob : AObj} (hz : 0 < ob.sz) (hk : lk σ.objs k = some ob) {b base cap : Nat} (hl : G.loc k = some (some b, base, cap, ob.sz)) (hle : off + n ≤ ob.xs.length) :
    G.le (G.add id (some b, base + off * ob.sz, n, ob.sz)) ∧ R B (G.add id (some b, base + off * ob.sz, n, ob.sz)) (σ.upd [(k, none), (id, some ⟨ob.t, ob.sz, (ob.xs.drop off).take n⟩)]) w a := by
  have hn := hr.fresh hid
  have hle2 : G.le (G.add id (some b, base + off * ob.sz, n, ob.sz)) := Gh.add_le hn
  obtain ⟨blk, ba, ca, g1, g2, g3, g4, g5⟩ := (hr.heap.obj k ob hk).cells hz
  rw [hl] at g1
  cases g1
  obtain ⟨vs, g6, g7, g8⟩ := g5
  have hlen : ((ob.xs.drop off).take n).length = n := by simp; omega
  have hrow : ∀ i, i < n → ((ob.xs.drop off).take n).getD i [] = ob.xs.getD (off + i) [] := fun i hi => by simp [List.getD, List.getElem?_take, hi, List.getElem?_drop]
  refine ⟨hle2, hr.n, fun s av hs => ⟨(hr.slot s av hs).1, (hr.slot s av hs).2.mono hle2⟩, hr.defers, ?_, hr.upd_ids rfl _ (by simp)⟩
  refine hr.heap.step rfl rfl rfl (Nat.le_refl _) hle2 rfl b id (fun q hq _ => rfl) (.inr ⟨k, ob, _, hk, hl⟩) (fun q oq hq => ?_)
  simp only [AS.upd, updO, lk_st, lk_dl] at hq
  split at hq
  · rename_i e; subst e
    cases hq
    refine .inl ⟨rfl, .of hz ⟨some b, base + off * ob.sz, n, Gh.add_self, by simp only [hlen]; exact Nat.le_refl _, by omega, fun i hi => ?_, vs, g6, ?_, fun i j hi hj => ?_⟩, fun b' x hl' => ?_⟩
    · simp only [hlen] at hi
      simp only [hrow i hi]; exact g4 _ (by omega)
    · have : (off + n) * ob.sz ≤ cap * ob.sz := Nat.mul_le_mul_right _ (by omega)
      rw [Nat.add_mul] at this
      show base + off * ob.sz + n * ob.sz ≤ vs.size
      omega
    · simp only [hlen] at hi
      have h1 := g8 (off + i) j (by omega) hj
      have e1 : base + off * ob.sz + (i * ob.sz + j) = base + ((off + i) * ob.sz + j) := by rw [Nat.add_mul]; omega
      simp only [hrow i hi]
      show (vs.getD (base + off * ob.sz + (i * ob.sz + j)) undef).oneCell' = true ∧ Rv _ _ (vs.getD (base + off * ob.sz + (i * ob.sz + j)) undef)
      rw [e1]
      exact ⟨h1.1, h1.2.mono hle2⟩
    · rw [Gh.add_self] at hl'; cases hl'; rfl
  · rename_i e
    split at hq
    · cases hq
    · rename_i e2
      refine .inr ⟨Ne.symm e, hq, fun b' x hl' eb => e2 ?_⟩
      subst eb
      exact hr.heap.inj k q ob oq hk hq _ _ _ hl hl'
end rows

section ops
variable {P : Program} {σ : AS} {o : Oper}
theorem ok_append_in {t : TypeId} {ti : TI} {e : TypeId} {eb : Nat} {ez : List Value} {s x : Operand} {k off n : Nat} {ob : AObj} {av : AV} {ys : List (List AV)} (hT : TIok P t ti) (hk : ti.kind = .slice e ob.sz eb ez)
    (ho : o.op = .call { callee := .builtin .append, args := #[s, x], argTypes := #[t, t] }) (hs : σ.ev s = some (.ref k off n)) (hob : lk σ.objs k = some ob) (hlt : off < ob.xs.length) (hend : off + n + ys.length ≤ ob.xs.length)
    (hx : σ.ev x = some av) (hys : σ.rows ob.sz av = some ys) :
    CoreOk P o σ (.ref k off (n + ys.length), [(k, some { ob with xs := spl ob.xs (off + n) ys })]) := by
  intro B G w a hr K Q hK
  obtain ⟨_, _, d, _, _, h3, _, _, _, hkk⟩ := hT.i
  rw [hk] at hkk
  obtain ⟨rfl, j, y, hj1, hj2, hj3, hj4, hj5⟩ := hkk
  obtain ⟨ad2, m, c2, hxv, hm, had2, hrow, f, hf1, hf2⟩ := hr.rows (hr.ev hx) (hT.epos _ _ _ _ hk) hys
  subst hm
  obtain ⟨b, base, cap, hl, hsv, hle, hcap, hcm⟩ := ref_at hr (hT.epos _ _ _ _ hk) hob (hr.ev hs) hlt
  obtain ⟨vs, h6, h7, h8⟩ := hr.rowsW (hT.epos _ _ _ _ hk) hob hl (m := off + n) (ys := ys) (by omega) hrow hf2
  have hnews : ∀ x j u, ad2 = some x → ((List.range (ys.length * ob.sz)).map f)[j]? = some u → w.cell? (x.add j) = some u := fun x j u hx hu => by
    obtain ⟨h1, h2⟩ := range_get _ _ _ _ hu
    rw [hf1 x j hx h1, h2]
  have hone : ∀ u ∈ (List.range (ys.length * ob.sz)).map f, u.oneCell' = true := fun u hu => by
    simp only [List.mem_map, List.mem_range] at hu
    obtain ⟨q, hq, rfl⟩ := hu
    obtain ⟨i, c, hi, hc, rfl⟩ := dm_split hq
    exact (hf2 i c hi hc).1
  have hrun := run_append_roomAt (P := P) w t o.type e j h3 hj1 b (base + off * ob.sz) n (cap - off) ob.t vs h6 ad2 ys.length c2 ((List.range (ys.length * ob.sz)).map f) (by simp [hj2]) had2 hnews hone (by omega) (by
    rw [hj2]
    simp only [List.length_map, List.length_range]
    rw [Nat.add_mul] at h7; omega)
  have hop : (execOp a.eval o).run P w = .ok (.value (.slice (some ⟨b, base + off * ob.sz, none⟩) (n + ys.length) (cap - off))) (w.setRow b (spl vs.toList (base + (off + n) * ob.sz) ((List.range (ys.length * ob.sz)).map f)).toArray) := by
    unfold execOp
    rw [ho]
    have e : base + (off + n) * ob.sz = base + off * ob.sz + n * ob.sz := by rw [Nat.add_mul]; omega
    simp [resolve, invoke, builtin, hsv, hxv, hrun, hj2, e]
  unfold Oper.wp
  rw [hop]
  refine hK G _ _ (Gh.le.refl G) h8 ?_
  exact Rv.ref (G := G) k off (n + ys.length) (some b) base cap ob.sz _ hl (by omega) hcm (fun _ => ⟨_, rfl, rfl⟩) (fun h => by cases h)
theorem ok_clear {t : TypeId} {ti : TI} {e : TypeId} {eb : Nat} {ez : List Value} {x : Operand} {k off n : Nat} {ob : AObj} (hT : TIok P t ti) (hk : ti.kind = .slice e ob.sz eb ez)
    (ho : o.op = .call { callee := .builtin .clear, args := #[x], argTypes := #[t] }) (hx : σ.ev x = some (.ref k off n)) (hob : lk σ.objs k = some ob) (hfit : off + n ≤ ob.xs.length) :
    CoreOk P o σ (.v (.tuple #[]), [(k, some { ob with xs := spl ob.xs off (List.replicate n (ez.map .v)) })]) := by
  intro B G w a hr K Q hK
  obtain ⟨hezl, hezo⟩ := hT.ezero _ _ _ _ hk
  obtain ⟨_, _, d, _, _, h3, _, _, _, hkk⟩ := hT.i
  rw [hk] at hkk
  obtain ⟨rfl, j, y, hj1, hj2, hj3, hj4, hj5⟩ := hkk
  unfold Oper.wp
  by_cases hn : n = 0
  · subst hn
    have hv := hr.ev hx
    obtain ⟨ad, c, hsv⟩ : ∃ ad c, a.eval x = .slice ad 0 c := by
      generalize a.eval x = v at hv
      cases hv with
      | ref _ _ _ blk base cap sz ad hl hle hcm hb' h0 => exact ⟨_, _, rfl⟩
    have hop : (execOp a.eval o).run P w = .ok (.value (.tuple #[])) w := by
      unfold execOp
      rw [ho]
      cases ad <;> simp [resolve, invoke, builtin, hsv, Builtin.clear_, run_underlying h3]
    rw [hop]
    have hxs : spl ob.xs off (List.replicate 0 (ez.map AV.v)) = ob.xs := by simp [spl]
    refine hK G w _ (Gh.le.refl G) ?_ (.v _)
    rw [hxs]
    refine ⟨hr.n, hr.slot, hr.defers, ?_, fun q hq => by rw [AS.upd, updI_one]; exact .inr (hr.ids q hq)⟩
    have : lk (σ.upd [(k, some { ob with xs := ob.xs })]).objs = lk σ.objs := by
      funext q
      simp only [AS.upd, updO, lk_st]
      split
      · rename_i e; subst e; exact hob.symm
      · rfl
    rw [this]; exact hr.heap
  · obtain ⟨b, base, cap, hl, hsv, hle, hcap, hcm⟩ := ref_at hr (hT.epos _ _ _ _ hk) hob (hr.ev hx) (by omega)
    have hzc : ∀ i c, c < ob.sz → (y.cells[(i * ob.sz + c) % y.cells.size]!) = ez.getD c undef := fun i c hc => by
      have h1 : y.cells.size = ob.sz := by rw [← hezl, ← hj5]; simp
      have h2 : (i * ob.sz + c) % y.cells.size = c := by rw [h1, Nat.add_comm, Nat.add_mul_mod_self_right, Nat.mod_eq_of_lt hc]
      rw [h2, ← hj5]
      simp [List.getD, show c < y.cells.size by omega]
    obtain ⟨vs, h6, h7, h8⟩ := hr.rowsW (hT.epos _ _ _ _ hk) hob hl (m := off) (ys := List.replicate n (ez.map .v)) (by simpa using hfit) (fun i hi => by
        simp only [List.length_replicate] at hi
        simp [List.getD, hi, hezl]) (f := fun q => y.cells[q % y.cells.size]!) (fun i c hi hc => by
        simp only [List.length_replicate] at hi
        rw [hzc i c hc]
        have hcl : c < ez.length := by omega
        have e1 : ez.getD c undef = ez[c] := by simp [List.getD, hcl]
        have e2 : ((List.replicate n (ez.map AV.v)).getD i []).getD c .any = .v (ez.getD c undef) := by simp [List.getD, hi, hcl]
        rw [e2]
        exact ⟨by rw [e1]; exact hezo _ (List.getElem_mem hcl), .v _⟩)
    simp only [List.length_replicate] at h7 h8
    have hzr : (Builtin.zeroCells y.cells n).toList = (List.range (n * ob.sz)).map fun q => y.cells[q % y.cells.size]! := by
      have h1 : y.cells.size = ob.sz := by rw [← hezl, ← hj5]; simp
      unfold Builtin.zeroCells
      rw [h1, Array.toList_map, Array.toList_range]
    have hst := run_storeCells_at P b (base + off * ob.sz) ob.t (Builtin.zeroCells y.cells n).toList 0 vs w h6 (by
        rw [hzr]; simp only [List.length_map, List.length_range, Nat.add_zero]; exact h7) (fun v hv => by
        rw [hzr] at hv
        simp only [List.mem_map, List.mem_range] at hv
        obtain ⟨q, hq, rfl⟩ := hv
        obtain ⟨i, c, hi, hc, rfl⟩ := dm_split hq
        rw [hzc i c hc]
        have hcl : c < ez.length := by omega
        have e1 : ez.getD c undef = ez[c] := by simp [List.getD, hcl]
        rw [e1]; exact hezo _ (List.getElem_mem hcl))
    have hop : (execOp a.eval o).run P w = .ok (.value (.tuple #[])) (w.setRow b (spl vs.toList (base + off * ob.sz) ((List.range (n * ob.sz)).map fun q => y.cells[q % y.cells.size]!)).toArray) := by
      unfold execOp
      rw [ho]
      obtain ⟨n', rfl⟩ : ∃ n', n = n' + 1 := ⟨n - 1, by omega⟩
      have hz : ∀ w, (zeroValue e).run P w = .ok y w := fun w => by simp [zeroValue, typeInfo, hj1, hj4]
      have hzs : (Builtin.zeroCells y.cells (n' + 1)).size = (n' + 1) * ob.sz := by
        rw [size_zeroCells]
        congr 1
        rw [← hezl, ← hj5]; simp
      simp [resolve, invoke, builtin, hsv, Builtin.clear_, run_underlying h3, hz, hst, spl]
      rw [← hzr, hzs]
    rw [hop]
    exact hK G _ _ (Gh.le.refl G) h8 (.v _)
theorem run_append_zeros {P : Program} (w : World) (t tn ty e : TypeId) (i : TypeInfo) (z : Value) {kn : IntKind} (ht : P.underlying t = some (.slice e)) (htn : P.underlying tn = some (.int kn)) (hi : P.info? e = some i) (hz : i.zero = some z) (k : IntKind) (n : Nat) (h0 : 0 < n) (hs0 : 0 < i.size) (h63 : n ≤ 140737488355328) (h48 : n * i.bytes ≤ 281474976710656) :
    (Builtin.append_ #[t, tn] ty #[.slice none 0 0, .int k (n : Int)]).run P w =
      .ok (.slice (some ⟨w.heap.size, 0, none⟩) n (grownCap w n 0 e)) (w.drew.alloc (.cells (Builtin.zeroCells z.cells n ++ Builtin.zeroCells z.cells (grownCap w n 0 e - n)) e)) := by
  have hw : IntKind.i64.wrap (n : Int) = n := IntWalk.i64_in _ ⟨by omega, by omega⟩
  have hn : n ≠ 0 := by omega
  have h1 : ¬ ((n : Int) < 0) := by omega
  have h2 : ¬ (281474976710656 < (n : Int) * (i.bytes : Int)) := by
    have : ((n * i.bytes : Nat) : Int) ≤ 281474976710656 := by omega
    rw [Int.natCast_mul] at this; omega
  have h3 : ¬ (9223372036854775807 < (n : Int)) := by omega
  have h48' : ¬ (281474976710656 < Builtin.nextslicecap n 0 * i.bytes) := by rw [nextslicecap_zero h0]; omega
  have hs : i.size ≠ 0 := by omega
  simp [Builtin.append_, run_underlying ht, run_underlying htn, sizeOf, typeInfo, zeroValue, hi, hz, hw, asInt, asIntOf, hn, h1, h2, h3, h48', hs, Question.forced, run_firstCells_none, newRow, grownCap]
  intro h
  rcases Nat.mul_eq_zero.1 h with h | h <;> omega
theorem ok_append_zeros {t tn : TypeId} {ti : TI} {e : TypeId} {esz eb : Nat} {ez : List Value} {s x : Operand} {id n : Nat} {kn k : IntKind} (hT : TIok P t ti) (hk : ti.kind = .slice e esz eb ez) (htn : P.underlying tn = some (.int kn))
    (ho : o.op = .call { callee := .builtin .append, args := #[s, x], argTypes := #[t, tn] }) (hs : σ.ev s = some (.v (.slice none 0 0)))
    (hx : σ.ev x = some (.v (.int k (n : Int)))) (hb : n * eb ≤ 140737488355328) (heb : 0 < eb) (hes : 0 < esz) (hpos : 0 < n) (hid : id ∉ σ.ids) :
    CoreOk P o σ (.ref id 0 n, [(id, some ⟨e, esz, List.replicate n (ez.map .v)⟩)]) := by
  intro B G w a hr K Q hK
  obtain ⟨_, _, d, _, _, h3, _, _, _, hkk⟩ := hT.i
  rw [hk] at hkk
  obtain ⟨rfl, j, y, hj1, hj2, hj3, hj4, hj5⟩ := hkk
  obtain ⟨hezl, hezo⟩ := hT.ezero _ _ _ _ hk
  have hsv := (hr.ev hs).v_eq
  have hxv := (hr.ev hx).v_eq
  have hneed : n ≤ 140737488355328 := by
    have : n * 1 ≤ n * eb := Nat.mul_le_mul_left _ heb
    omega
  have hge := grownCap_ge w n 0 e
  have hcapg : grownCap w n 0 e ≤ 9223372036854775807 := by
    have := grownCap_le_maxLen w n 0 e (by rw [maxLen_eq]; omega)
    rw [maxLen_eq] at this; exact this
  have hysz : y.cells.size = esz := by rw [← hezl, ← hj5]; simp
  have hzs : ∀ q, (Builtin.zeroCells y.cells q).size = q * esz := fun q => by rw [size_zeroCells, hysz]
  have hzc : ∀ i c, c < esz → (y.cells[(i * esz + c) % y.cells.size]!) = ez.getD c undef := fun i c hc => by
    have h2 : (i * esz + c) % y.cells.size = c := by rw [hysz, Nat.add_comm, Nat.add_mul_mod_self_right, Nat.mod_eq_of_lt hc]
    rw [h2, ← hj5]
    simp [List.getD, show c < y.cells.size by omega]
  have hzr : Builtin.zeroCells y.cells n = ((List.range (n * esz)).map fun q => y.cells[q % y.cells.size]!).toArray := by
    unfold Builtin.zeroCells
    rw [hysz]
    apply Array.ext'
    rw [Array.toList_map, Array.toList_range]
  have hcat := cat_val (G := G) (n := 0) (m := n) (sz := esz) (f0 := fun _ => undef) (f := fun q => y.cells[q % y.cells.size]!) (xs := []) (ys := List.replicate n (ez.map .v)) (z := Builtin.zeroCells y.cells (grownCap w n 0 e - n)) rfl (by simp) (fun i j hi => by omega) (fun i c hi hc => by
    rw [hzc i c hc]
    have hcl : c < ez.length := by omega
    have e1 : ez.getD c undef = ez[c] := by simp [List.getD, hcl]
    have e2 : ((List.replicate n (ez.map AV.v)).getD i []).getD c .any = .v (ez.getD c undef) := by simp [List.getD, hi, hcl]
    rw [e2]
    exact ⟨by rw [e1]; exact hezo _ (List.getElem_mem hcl), .v _⟩)
  rw [show ((List.range (0 * esz)).map fun _ => undef).toArray = #[] by simp, Array.empty_append, List.nil_append, ← hzr] at hcat
  obtain ⟨r1, r2⟩ := hr.new hid (h0 := hes) (t := e) (sz := esz) (cap := grownCap w n 0 e) (xs := List.replicate n (ez.map .v)) (vs := Builtin.zeroCells y.cells n ++ Builtin.zeroCells y.cells (grownCap w n 0 e - n)) (by simpa using hge) hcapg (by
      simp [hzs]
      rw [← Nat.add_mul]; exact Nat.mul_le_mul_right _ (by omega)) (fun i hi => by
        simp only [List.length_replicate] at hi
        simp [List.getD, hi, hezl]) hcat (w1 := w.drew) ⟨rfl, rfl, rfl, rfl⟩
  have hrun := run_append_zeros (P := P) w t tn o.type e j y h3 htn hj1 hj4 k n hpos (by omega) hneed (by rw [hj3]; omega)
  unfold Oper.wp
  have hop : (execOp a.eval o).run P w = .ok (.value (.slice (some ⟨w.heap.size, 0, none⟩) n (grownCap w n 0 e))) (w.drew.alloc (.cells (Builtin.zeroCells y.cells n ++ Builtin.zeroCells y.cells (grownCap w n 0 e - n)) e)) := by
    unfold execOp
    rw [ho]
    simp [resolve, invoke, builtin, hsv, hxv, hrun]
  rw [hop]
  refine hK _ _ _ r1 r2 ?_
  have := Rv.ref (G := G.add id (some w.heap.size, 0, grownCap w n 0 e, esz)) id 0 n (some w.heap.size) 0 (grownCap w n 0 e) esz (some ⟨w.heap.size, 0, none⟩) Gh.add_self (by omega) hcapg (fun _ => ⟨_, rfl, by simp⟩) (fun h => by cases h)
  simpa using this
theorem ok_slice_nil {t : TypeId} {ti : TI} {e : TypeId} {esz eb : Nat} {ez : List Value} {x : Operand} {lo hi : Option Operand} (hT : TIok P t ti) (hk : ti.kind = .slice e esz eb ez) (ho : o.op = .slice t x lo hi none) (hx : σ.ev x = some (.v (.slice none 0 0))) (hb : bndA σ 0 lo hi = some (0, 0)) :
    CoreOk P o σ (.v (.slice none 0 0), []) :=
  CoreOk.pure fun B G w a hr => by
    obtain ⟨_, _, d, _, _, h3, _, _, _, hkk⟩ := hT.i
    rw [hk] at hkk
    obtain ⟨rfl, j, y, hj1, hj2, _⟩ := hkk
    have hv := (hr.ev hx).v_eq
    obtain ⟨_, _, h5⟩ := bndA_ok (P := P) hr (c := 0) (Nat.le_refl _) hb
    refine ⟨.slice none 0 0, ?_, .v _⟩
    unfold execOp
    rw [ho]
    have hs : ∀ w, (sizeOf e).run P w = .ok esz w := fun w => size_of_info hj1 hj2
    simp only [Instr.sliceAt, hv, Option.map_none, Sem.run_bind, run_underlying h3, Result.andThen_ok, Instr.slice, h5, hs, Sem.run_pure]
    rfl
theorem ok_cap_nil {t : TypeId} {ti : TI} {e : TypeId} {esz eb : Nat} {ez : List Value} {x : Operand} (hT : TIok P t ti) (hk : ti.kind = .slice e esz eb ez)
    (ho : o.op = .call { callee := .builtin .cap, args := #[x], argTypes := #[t] }) (hx : σ.ev x = some (.v (.slice none 0 0))) : CoreOk P o σ (.v (.int .i64 0), []) :=
  CoreOk.pure fun B G w a hr => by
    obtain ⟨_, _, d, _, _, h3, _, _, _, hkk⟩ := hT.i
    rw [hk] at hkk
    obtain ⟨rfl, _⟩ := hkk
    refine ⟨.int .i64 0, ?_, .v _⟩
    have hv := (hr.ev hx).v_eq
    unfold execOp
    rw [ho]
    simp [resolve, invoke, builtin, hv, Builtin.cap_, run_underlying h3, goInt]
theorem ok_clip {t : TypeId} {ti : TI} {e : TypeId} {esz eb : Nat} {ez : List Value} {x y z : Operand} {k off n id : Nat} {k1 k2 : IntKind} {ob : AObj} (hT : TIok P t ti) (hk : ti.kind = .slice e esz eb ez) (ho : o.op = .slice t x none (some y) (some z)) (hx : σ.ev x = some (.ref k off n))
    (hy : σ.ev y = some (.v (.int k1 (n : Int)))) (hzz : σ.ev z = some (.v (.int k2 (n : Int)))) (hob : lk σ.objs k = some ob) (hsz : ob.sz = esz) (hpos : 0 < n) (hle : off + n ≤ ob.xs.length) (hid : id ∉ σ.ids) :
    CoreOk P o σ (.ref id 0 n, [(k, none), (id, some ⟨ob.t, ob.sz, (ob.xs.drop off).take n⟩)]) := by
  intro B G w a hr K Q hK
  have hpz := hT.epos _ _ _ _ hk
  obtain ⟨_, _, d, _, _, h3, _, _, _, hkk⟩ := hT.i
  rw [hk] at hkk
  obtain ⟨rfl, j, y', hj1, hj2, hj3, hj4, hj5⟩ := hkk
  have hsz' : ∀ w, (sizeOf e).run P w = .ok esz w := fun w => size_of_info hj1 hj2
  have hyv := (hr.ev hy).v_eq
  have hzv := (hr.ev hzz).v_eq
  have hxv := hr.ev hx
  generalize hv : a.eval x = v at hxv
  cases hxv with
  | ref _ _ _ blk base cap sz ad hl hle' hcm hb' h0 =>
    obtain ⟨blk', ba, ca, g1, _⟩ := hr.heap.obj k ob hob
    rw [hl] at g1
    cases g1
    subst hsz
    obtain ⟨b, rfl, rfl⟩ := hb' (by omega)
    obtain ⟨r1, r2⟩ := hr.cut hid hpz hob hl hle
    have s1 : (Instr.sliceBound (.int k2 (n : Int)) (cap - off) .slice3Acap).run P w = .ok n w := run_sliceBound w k2 n (cap - off) _ (by omega) (by omega)
    have s2 : (Instr.sliceBound (.int k1 (n : Int)) n .slice3B).run P w = .ok n w := run_sliceBound w k1 n n _ (by omega) (by omega)
    unfold Oper.wp
    have hrun : (execOp a.eval o).run P w = .ok (.value (.slice (some ⟨b, base + off * ob.sz, none⟩) n n)) w := by
      unfold execOp
      rw [ho]
      simp only [Instr.sliceAt, hv, Option.map_none, Option.map_some, hyv, hzv, Sem.run_bind, run_underlying h3, Result.andThen_ok, Instr.slice, Instr.sliceBounds, if_true, s1, s2, hsz', Sem.run_pure]
      rw [if_neg (by omega)]
      simp [Addr.add_lit]
    rw [hrun]
    refine hK _ _ _ r1 r2 ?_
    have := Rv.ref (G := G.add id (some b, base + off * ob.sz, n, ob.sz)) id 0 n (some b) (base + off * ob.sz) n ob.sz (some ⟨b, base + off * ob.sz, none⟩) Gh.add_self (by omega) (by omega) (fun _ => ⟨_, rfl, by simp⟩) (fun h => by cases h)
    simpa using this
theorem ok_strBytes {s t e : TypeId} {ti : TI} {eb : Nat} {ez : List Value} {x : Operand} {str : ByteArray} (hT : TIok P t ti) (hk : ti.kind = .slice e 1 eb ez) (he : P.underlying e = some (.int .u8)) (hs : P.underlying s = some .string) (ho : o.op = .convert s t x) (hx : σ.ev x = some (.v (.string str))) (hlen : str.data.toList.length ≤ 140737488355328) :
    CoreOk P o σ (.sl 1 (str.data.toList.map fun b => [.v (.int .u8 (b.toNat : Int))]), []) := by
  intro B G w a hr K Q hK
  obtain ⟨_, _, d, _, _, h3, _, _, _, hkk⟩ := hT.i
  rw [hk] at hkk
  obtain ⟨rfl, _⟩ := hkk
  have hv := (hr.ev hx).v_eq
  have hrun := run_bytes_of_string (P := P) w s t e str hs h3 he
  generalize hcap : grownCap w str.size 0 e = cap at hrun
  obtain ⟨⟨L⟩⟩ := str
  have hsize : (⟨⟨L⟩⟩ : ByteArray).size = L.length := rfl
  have hdl : (⟨⟨L⟩⟩ : ByteArray).data.toList = L := rfl
  rw [hdl] at hK hlen
  obtain ⟨w', hw'⟩ : ∃ w', w.drew.alloc (.cells (bytesRow ⟨⟨L⟩⟩ cap) e ((bytesRow ⟨⟨L⟩⟩ cap).size, (bytesRow ⟨⟨L⟩⟩ cap).size + 1)) = w' := ⟨_, rfl⟩
  rw [hw'] at hrun
  have hb : Below w.heap.size w w' := by
    rw [← hw']
    exact ((Below.refl w.heap.size w).drew).alloc (Nat.le_refl _) _
  have hblk : w'.heap[w.heap.size]? = some (.cells (bytesRow ⟨⟨L⟩⟩ cap) e ((bytesRow ⟨⟨L⟩⟩ cap).size, (bytesRow ⟨⟨L⟩⟩ cap).size + 1)) := by
    rw [← hw']
    show (w.heap.push _)[w.heap.size]? = _
    simp
  have hcell : ∀ i (hi : i < L.length), w'.cell? ⟨w.heap.size, i, none⟩ = some (.int .u8 (L[i].toNat : Int)) := fun i hi => by
    have : (bytesRow ⟨⟨L⟩⟩ cap)[i]? = some (.int .u8 (L[i].toNat : Int)) := by
      unfold bytesRow
      rw [Array.getElem?_append_left (by simpa using hi)]
      simp [hi]
    simp [World.cell?, hblk, this]
  obtain ⟨r1, r2⟩ := hr.after (S' := fun b o => if b = w.heap.size then w'.cell? ⟨b, o, none⟩ else G.S b o) hb (fun b o u h => by
      show (if b = w.heap.size then _ else G.S b o) = some u
      rw [if_neg (fun e => by have := hr.heap.blk_lt h; omega)]; exact h) (fun b o u h => by
      have h' : (if b = w.heap.size then w'.cell? ⟨b, o, none⟩ else G.S b o) = some u := h
      split at h'
      · exact h'
      · have h4 := hr.heap.st b o u h'
        have h5 : w'.cell? ⟨b, o, none⟩ = w.cell? ⟨b, o, none⟩ := hb.cell (hr.heap.blk_lt h')
        rw [h5]; exact h4) (fun b o u h => by
      have h' : (if b = w.heap.size then w'.cell? ⟨b, o, none⟩ else G.S b o) = some u := h
      split at h'
      · rename_i e; right; omega
      · exact .inl h')
  unfold Oper.wp
  have hop : (execOp a.eval o).run P w = .ok (.value (.slice (some ⟨w.heap.size, 0, none⟩) (⟨⟨L⟩⟩ : ByteArray).size cap)) w' := by
    unfold execOp
    rw [ho]
    simp only [hv, Sem.run_bind, hrun, Result.andThen_ok, Sem.run_pure]
  rw [hop]
  refine hK _ _ _ r1 r2 ?_
  have hgc : (⟨⟨L⟩⟩ : ByteArray).size ≤ cap := by rw [← hcap]; exact grownCap_ge _ _ _ _
  refine .sl 1 _ (some ⟨w.heap.size, 0, none⟩) (⟨⟨L⟩⟩ : ByteArray).size cap (fun i _ => .int .u8 ((L.getD i 0).toNat : Int)) (by simp; rfl) hgc (by unfold AMax; omega) (fun h => by cases h) (fun i hi => ?_) (fun hp => ⟨w.heap.size, 0, rfl, fun i j hi hj => ?_⟩) (fun i j hi hj => rfl) (fun i j hi hj => ?_)
  · simp only [List.length_map] at hi
    simp [List.getD, hi]
  · simp only [List.length_map] at hi
    obtain rfl : j = 0 := by omega
    show (if w.heap.size = w.heap.size then _ else _) = _
    rw [if_pos rfl, show 0 + i * 1 + 0 = i by omega, hcell i hi]
    simp [List.getD, hi]
  · simp only [List.length_map] at hi
    obtain rfl : j = 0 := by omega
    have : ((L.map fun b => [AV.v (.int .u8 (b.toNat : Int))]).getD i []).getD 0 .any = .v (.int .u8 ((L.getD i 0).toNat : Int)) := by
      simp [List.getD, hi]
    rw [this]; exact .v _
theorem R.mark {B : Base} {G : Gh} {w : World} {a : Act} (hr : R B G σ w a) {b p : Nat} {u : Value} (hs : G.S b p = some u) (hown : B.w0.heap.size ≤ b ∨ b ∈ B.bs) {vs : Array Value} {t : TypeId} {fr f : Nat × Nat}
    (h1 : w.heap[b]? = some (.cells vs t fr)) {w' : World} (h2 : w'.heap[b]? = some (.cells vs t f)) (h3 : ∀ c, c ≠ b → w'.heap[c]? = w.heap[c]?) (h4 : w'.heap.size = w.heap.size)
    (h5 : w'.os = w.os) (h6 : w'.tape = w.tape) (h7 : w'.output = w.output) : R B G σ w' a := by
  have hh := hr.heap
  refine ⟨hr.n, hr.slot, hr.defers, ⟨h5.trans hh.os, h6.trans hh.tape, h7.trans hh.output, by rw [h4]; exact hh.size, fun c hc hn => ?_, fun k o hk => ?_, hh.own, hh.inj, fun c o v hv => ?_, hh.sep, hh.fresh, hh.keep, hh.fix, fun r hrD => ?_, hh.base⟩, hr.ids⟩
  · rw [← hh.old c hc hn]
    refine h3 c fun e => ?_
    subst e
    rcases hown with h | h
    · omega
    · exact hn h
  · refine (hh.obj k o hk).mono (Gh.le.refl G) fun c base cap sz hl => h3 c fun e => ?_
    subst e
    rw [hh.sep k o hk _ _ hl] at hs; cases hs
  · rw [← hh.st c o v hv]
    by_cases e : c = b
    · subst e; simp [World.cell?, h1, h2]
    · simp [World.cell?, h3 c e]
  · obtain ⟨g1, g2⟩ := hh.pin r hrD
    refine ⟨?_, g2⟩
    rw [← g1]
    refine h3 r fun e => ?_
    subst e
    rw [h1] at g1; cases g1
theorem lk_dl_ne {α : Type} (l : List (Nat × α)) (k j : Nat) (v : α) (h : lk (dl l k) j = some v) : lk l j = some v ∧ j ≠ k := by
  induction l with
  | nil => simp [dl, lk] at h
  | cons e r ih =>
    obtain ⟨e1, e2⟩ := e
    simp only [dl] at h
    split at h
    · rename_i he
      subst he
      obtain ⟨g1, g2⟩ := ih h
      exact ⟨by simp only [lk]; rw [if_neg (fun e => g2 e.symm)]; exact g1, g2⟩
    · rename_i he
      simp only [lk] at h ⊢
      split at h
      · rename_i hj
        exact ⟨by rw [if_pos hj]; exact h, fun e => he (hj.trans e)⟩
      · rename_i hj
        rw [if_neg hj]; exact ih h
theorem ok_convSelf {t e : TypeId} {ti : TI} {eb esz : Nat} {ez : List Value} {x : Operand} {k n : Nat} {av : AV} {ob : AObj} (hT : TIok P t ti) (hk : ti.kind = .slice e esz eb ez) (he : P.underlying e = some (.int .u8)) (ho : o.op = .convert t t x) (hx : σ.ev x = some (.ref k 0 n)) (hob : lk σ.objs k = some ob) (hn : 0 < n) (hs : σ.shut1 (fun j => j == k) (.ref k 0 n) = some av) :
    CoreOk P o σ (av, [(k, none)]) := by
  intro B G w a hr K Q hK
  obtain ⟨_, _, d, _, _, h3, _, _, _, hkk⟩ := hT.i
  rw [hk] at hkk
  obtain ⟨rfl, _⟩ := hkk
  have hz : 0 < ob.sz := by
    simp only [AS.shut1, hob] at hs
    split at hs
    · rename_i hc; exact hc.2.1
    · cases hs
  have hv := hr.ev hx
  generalize hev : a.eval x = v at hv
  have hv0 := hv
  cases hv with
  | ref _ _ _ blk base cap sz ad hloc hle hm hb h0 =>
    obtain ⟨b, rfl, rfl⟩ := hb (by omega)
    obtain ⟨blk', base', cap', g1, g2, g3, g4, g5⟩ := (hr.heap.obj k ob hob).cells hz
    rw [hloc] at g1
    cases g1
    obtain ⟨vs, q1, q2, q3⟩ := g5
    have hown := hr.heap.own k ob hob _ _ _ _ hloc
    have hfz := hr.freeze (fun j => j == k) (dl σ.objs k) (fun j ob' h => by
      obtain ⟨h1, h2⟩ := lk_dl_ne _ _ _ _ h
      exact ⟨h1, by simpa using h2⟩)
    have hids : k ∈ σ.ids := hr.ids k (by rw [hloc]; simp)
    have hst : σ.upd [(k, none)] = { σ with objs := dl σ.objs k } := by
      unfold AS.upd
      simp [updO, updI, hids]
    rw [← hst] at hfz
    have hval : Rv (G.frz σ (fun j => j == k) w) av (.slice (some ⟨b, base + 0 * ob.sz, none⟩) n (cap - 0)) :=
      shut1_ok hr (T := (G.frz σ (fun j => j == k) w).S) (L := G.loc) (frz_le hr _).S (fun k' ob' b' x' p u hD hk' hl hc => by rw [frz_in (D := fun j => j == k) hD hk' hl]; exact hc) hv0 hs
    have hcap : 0 < cap * ob.sz := Nat.mul_pos (by omega) hz
    have hsz : 0 < vs.size := by omega
    have hcell : w.cell? ⟨b, 0, none⟩ = some vs[0] := by simp [World.cell?, q1, hsz]
    have hS : (G.frz σ (fun j => j == k) w).S b 0 = some vs[0] := by
      rw [frz_in (D := fun j => j == k) (k := k) (by simp) hob hloc]; exact hcell
    have hlt : b < w.heap.size := by
      rcases Nat.lt_or_ge b w.heap.size with h | h
      · exact h
      · rw [Array.getElem?_eq_none h] at q1; cases q1
    obtain ⟨w', hw'⟩ : ∃ w', w.freeze ⟨b, vs.size, none⟩ 1 = w' := ⟨_, rfl⟩
    have hheap : w'.heap = w.heap.modify b fun
      | .cells c elem (lo, hi) => .cells c elem (if lo == hi then (vs.size, vs.size + 1) else (min lo vs.size, max hi (vs.size + 1)))
      | o => o := by
      rw [← hw']; rfl
    have hr' := hfz.mark hS hown q1 (w' := w') (f := (vs.size, vs.size + 1)) (by rw [hheap]; simp [Array.getElem?_modify, q1]) (fun c hc => by
      rw [hheap]; simp [Array.getElem?_modify, Ne.symm hc]) (by rw [hheap]; simp) (by rw [← hw']; rfl) (by rw [← hw']; rfl) (by rw [← hw']; rfl)
    unfold Oper.wp
    have hop : (execOp a.eval o).run P w = .ok (.value (.slice (some ⟨b, base + 0 * ob.sz, none⟩) n (cap - 0))) w' := by
      unfold execOp
      rw [ho]
      have hsh : w.shape? b = some (ob.t, vs.size) := by unfold World.shape?; rw [q1]
      simp [hev, convert, run_underlying h3, run_underlying he, markStringish, hsh, hw']
    rw [hop]
    exact hK _ _ _ (frz_le hr _) hr' hval
end ops

section coreX
variable (TT : TTab) (σ : AS) (id : Nat)
def cAppIn (t : TypeId) (s x : Operand) : Option Res :=
  match TT t, σ.ev s, σ.ev x with
  | some ti, some (.ref k off n), some av =>
    match ti.kind, lk σ.objs k with
    | .slice _ esz _ _, some ob => match σ.rows ob.sz av with
      | some ys => if ob.sz = esz ∧ off < ob.xs.length ∧ off + n + ys.length ≤ ob.xs.length then some (.ref k off (n + ys.length), [(k, some { ob with xs := spl ob.xs (off + n) ys })]) else none
      | none => none
    | _, _ => none
  | _, _, _ => none
def cClear (t : TypeId) (x : Operand) : Option Res :=
  match TT t, σ.ev x with
  | some ti, some (.ref k off n) =>
    match ti.kind, lk σ.objs k with
    | .slice _ esz _ ez, some ob => if ob.sz = esz ∧ off + n ≤ ob.xs.length then some (.v (.tuple #[]), [(k, some { ob with xs := spl ob.xs off (List.replicate n (ez.map .v)) })]) else none
    | _, _ => none
  | _, _ => none
def cCap (t : TypeId) (x : Operand) : Option Res :=
  match TT t, σ.ev x with
  | some ti, some (.v (.slice none 0 0)) => match ti.kind with
    | .slice _ _ _ _ => some (.v (.int .i64 0), [])
    | _ => none
  | _, _ => none
def isIntT (t : TypeId) : Bool := match plainOf TT t with
  | some (.int _) => true
  | _ => false
def cAppZ (t u : TypeId) (s x : Operand) : Option Res :=
  match TT t, σ.ev s, σ.ev x with
  | some ti, some (.v (.slice none 0 0)), some (.v (.int _ n)) =>
    match ti.kind with
    | .slice e esz eb ez => if isIntT TT u = true ∧ 0 < n ∧ n.toNat * eb ≤ 140737488355328 ∧ 0 < eb ∧ 0 < esz ∧ id ∉ σ.ids then some (.ref id 0 n.toNat, [(id, some ⟨e, esz, List.replicate n.toNat (ez.map .v)⟩)]) else none
    | _ => none
  | _, _, _ => none
def cSliceNil (t : TypeId) (x : Operand) (lo hi : Option Operand) : Option Res :=
  match TT t, σ.ev x with
  | some ti, some (.v (.slice none 0 0)) => match ti.kind with
    | .slice _ _ _ _ => if bndA σ 0 lo hi = some (0, 0) then some (.v (.slice none 0 0), []) else none
    | _ => none
  | _, _ => none
def cClip (t : TypeId) (x y z : Operand) : Option Res :=
  match TT t, σ.ev x, σ.ev y, σ.ev z with
  | some ti, some (.ref k off n), some (.v (.int _ p)), some (.v (.int _ q)) =>
    match ti.kind, lk σ.objs k with
    | .slice _ esz _ _, some ob => if p = n ∧ q = n ∧ ob.sz = esz ∧ 0 < n ∧ off + n ≤ ob.xs.length ∧ id ∉ σ.ids then some (.ref id 0 n, [(k, none), (id, some ⟨ob.t, ob.sz, (ob.xs.drop off).take n⟩)]) else none
    | _, _ => none
  | _, _, _, _ => none
def isStrT (t : TypeId) : Bool := match plainOf TT t with
  | some .string => true
  | _ => false
def isByteT (t : TypeId) : Bool := match plainOf TT t with
  | some (.int .u8) => true
  | _ => false
def cStrB (s t : TypeId) (x : Operand) : Option Res :=
  match TT t, σ.ev x with
  | some ti, some (.v (.string str)) =>
    match ti.kind with
    | .slice e esz _ _ => if esz = 1 ∧ isStrT TT s = true ∧ isByteT TT e = true ∧ str.data.toList.length ≤ 140737488355328 then some (.sl 1 (str.data.toList.map fun b => [.v (.int .u8 (b.toNat : Int))]), []) else none
    | _ => none
  | _, _ => none
def cConvS (s t : TypeId) (x : Operand) : Option Res :=
  match TT t, σ.ev x with
  | some ti, some (.ref k 0 n) =>
    match ti.kind with
    | .slice e _ _ _ => if s = t ∧ 0 < n ∧ isByteT TT e = true then (σ.shut1 (fun j => j == k) (.ref k 0 n)).map fun av => (av, [(k, none)]) else none
    | _ => none
  | _, _ => none
def cConvY (s t : TypeId) (x : Operand) : Option Res :=
  match cStrB TT σ s t x with
  | some r => some r
  | none => cConvS TT σ s t x
def coreX (o : Oper) : Option Res :=
  match o.op with
  | .slice t x lo hi none => cSliceNil TT σ t x lo hi
  | .slice t x none (some y) (some z) => cClip TT σ id t x y z
  | .convert s t x => cConvY TT σ s t x
  | .call { callee := .builtin .append, args := as, argTypes := ts } => match as.toList, ts.toList with
    | [s, x], [t, u] => if t = u then cAppIn TT σ t s x else cAppZ TT σ id t u s x
    | _, _ => none
  | .call { callee := .builtin .clear, args := as, argTypes := ts } => match as.toList, ts.toList with
    | [x], [t] => cClear TT σ t x
    | _, _ => none
  | .call { callee := .builtin .cap, args := as, argTypes := ts } => match as.toList, ts.toList with
    | [x], [t] => cCap TT σ t x
    | _, _ => none
  | _ => none
end coreX
theorem arr2 {α : Type} {as : Array α} {x y : α} (h : as.toList = [x, y]) : as = #[x, y] := by cases as; simp at h; rw [h]
theorem arr1 {α : Type} {as : Array α} {x : α} (h : as.toList = [x]) : as = #[x] := by cases as; simp at h; rw [h]
theorem coreX_ok {P : Program} {TT : TTab} (hTT : TTok P TT) {σ : AS} {id : Nat} {o : Oper} {r : Res} (h : coreX TT σ id o = some r) : CoreOk P o σ r ∧ ∀ c, o.op ≠ .defer c := by
  unfold coreX at h
  split at h
  · rename_i t x lo hi ho
    refine ⟨?_, fun c hc => by rw [ho] at hc; cases hc⟩
    unfold cSliceNil at h
    split at h
    · rename_i ti hti hx
      split at h
      · rename_i e esz eb ez hk
        split at h
        · rename_i hb
          cases h
          exact ok_slice_nil (hTT _ _ hti) hk ho hx hb
        · cases h
      · cases h
    · cases h
  · rename_i t x y z ho
    refine ⟨?_, fun c hc => by rw [ho] at hc; cases hc⟩
    unfold cClip at h
    split at h
    · rename_i ti k off n k1 p k2 q hti hx hy hz
      split at h
      · rename_i e esz eb ez ob hk hob
        split at h
        · rename_i hc
          obtain ⟨rfl, rfl, h1, h2, h3, h4⟩ := hc
          cases h
          exact ok_clip (hTT _ _ hti) hk ho hx hy hz hob h1 h2 h3 h4
        · cases h
      · cases h
    · cases h
  · rename_i s t x ho
    refine ⟨?_, fun c hc => by rw [ho] at hc; cases hc⟩
    unfold cConvY at h
    split at h
    · rename_i r' hq
      cases h
      unfold cStrB at hq
      split at hq
      · rename_i ti str hti hx
        split at hq
        · rename_i e esz eb ez hk
          split at hq
          · rename_i hc
            obtain ⟨rfl, h1, h2, h3⟩ := hc
            cases hq
            refine ok_strBytes (hTT _ _ hti) hk (e := e) ?_ ?_ ho hx h3
            · unfold isByteT at h2
              split at h2
              · rename_i hp; exact plainOf_ok hTT hp
              · cases h2
            · unfold isStrT at h1
              split at h1
              · rename_i hp; exact plainOf_ok hTT hp
              · cases h1
          · cases hq
        · cases hq
      · cases hq
    · unfold cConvS at h
      split at h
      · rename_i ti k n hti hx
        split at h
        · rename_i e esz eb ez hk
          split at h
          · rename_i hc
            obtain ⟨rfl, h1, h2⟩ := hc
            simp only [Option.map_eq_some_iff] at h
            obtain ⟨av, h3, rfl⟩ := h
            have hob : ∃ ob, lk σ.objs k = some ob := by
              simp only [AS.shut1] at h3
              split at h3
              · rename_i ob hob; exact ⟨ob, hob⟩
              · cases h3
            obtain ⟨ob, hob⟩ := hob
            refine ok_convSelf (hTT _ _ hti) hk (e := e) ?_ ho hx hob h1 h3
            unfold isByteT at h2
            split at h2
            · rename_i hp; exact plainOf_ok hTT hp
            · cases h2
          · cases h
        · cases h
      · cases h
  · rename_i as ts ho
    refine ⟨?_, fun c hc => by rw [ho] at hc; cases hc⟩
    split at h
    · rename_i s x t u ha ht
      split at h
      · rename_i e
        subst e
        rw [arr2 ha, arr2 ht] at ho
        unfold cAppIn at h
        split at h
        · rename_i ti k off n av hti hs hx
          split at h
          · rename_i e esz eb ez ob hk hob
            split at h
            · rename_i ys hys
              split at h
              · rename_i hc
                obtain ⟨rfl, h1, h2⟩ := hc
                cases h
                exact ok_append_in (hTT _ _ hti) hk ho hs hob h1 h2 hx hys
              · cases h
            · cases h
          · cases h
        · cases h
      · rw [arr2 ha, arr2 ht] at ho
        unfold cAppZ at h
        split at h
        · rename_i ti k n hti hs hx
          split at h
          · rename_i e esz eb ez hk
            split at h
            · rename_i hc
              obtain ⟨h1, h2, h3, h4, h5, h6⟩ := hc
              cases h
              unfold isIntT at h1
              split at h1
              · rename_i kn hpl
                exact ok_append_zeros (n := n.toNat) (hTT _ _ hti) hk (plainOf_ok hTT hpl) ho hs (by rw [hx, Int.toNat_of_nonneg (by omega)]) h3 h4 h5 (by omega) h6
              · cases h1
            · cases h
          · cases h
        · cases h
    · cases h
  · rename_i as ts ho
    refine ⟨?_, fun c hc => by rw [ho] at hc; cases hc⟩
    split at h
    · rename_i x t ha ht
      rw [arr1 ha, arr1 ht] at ho
      unfold cClear at h
      split at h
      · rename_i ti k off n hti hx
        split at h
        · rename_i e esz eb ez ob hk hob
          split at h
          · rename_i hc
            obtain ⟨rfl, h1⟩ := hc
            cases h
            exact ok_clear (hTT _ _ hti) hk ho hx hob h1
          · cases h
        · cases h
      · cases h
    · cases h
  · rename_i as ts ho
    refine ⟨?_, fun c hc => by rw [ho] at hc; cases hc⟩
    split at h
    · rename_i x t ha ht
      rw [arr1 ha, arr1 ht] at ho
      unfold cCap at h
      split at h
      · rename_i ti hti hx
        split at h
        · rename_i e esz eb ez hk
          cases h
          exact ok_cap_nil (hTT _ _ hti) hk ho hx
        · cases h
      · cases h
    · cases h
  · cases h
def stepX (TT : TTab) (PT : PTab) (ops : Array Oper) (id : Nat) (σ : AS) (o : Oper) : Option AS :=
  match stepA TT PT ops id σ o with
  | some τ => some τ
  | none => if dstOk σ o = true then
      match wantA σ ops o with
      | some true => match coreX TT σ id o with
        | some r => some ((σ.upd r.2).put o.dst r.1)
        | none => none
      | _ => none
    else none
theorem spl_stepX {P : Program} {TT : TTab} {PT : PTab} {B : Base} {ops : Array Oper} {σ : AS} {Q : Exit → AS → Prop} (hTT : TTok P TT) (hPT : PTok P PT) {id : Nat} {o : Oper} {r : List Oper} {σ' : AS} (h : stepX TT PT ops id σ o = some σ') (k : SPL P B ops r σ' Q) : SPL P B ops (o :: r) σ Q := by
  unfold stepX at h
  split at h
  · rename_i τ ht
    cases h
    exact spl_step hTT hPT ht k
  · split at h
    · rename_i hd
      split at h
      · rename_i hw
        split at h
        · rename_i s hs
          cases h
          obtain ⟨h1, h2⟩ := coreX_ok hTT hs
          exact spl_op hd hw h1 k h2
        · cases h
      · cases h
    · cases h
end Go.Proofs.YtafikekndefjcaaDoor
/- Am19: An abstract machine for the text, part nineteen: code that runs without any unknown, run; plain lemmas over any program; no condition. -/
namespace Go.Proofs.YtafikekndefjcaaDoor
set_option linter.unusedVariables false
set_option linter.unusedSimpArgs false
set_option linter.unusedSectionVars false
open Go.RowKit

structure Env where
  yk : Nat
  n : Nat
  slots : List (Nat × AV)
  ps : Array Tmp
  assign : Code
  body : Code
abbrev RunT := Bool → Option Env → Code → AS → Option (Exit × AS)
def noPT : PTab := fun _ _ => none
theorem noPT_ok (P : Program) : PTok P noPT := fun f args r fr h => by cases h
def noT : FuncId → Bool := fun _ => false
def nx (ids : List Nat) : Nat := match ids with
  | [] => 0
  | k :: _ => k + 1
def isEnd (e : Exit) : Bool := match e with
  | .normal | .ret => true
  | _ => false
def leafD (σ : AS) (L : List Nat) (k : Nat) : Bool := L.contains k && match lk σ.objs k with
  | some ob => (idsLL ob.xs).isEmpty
  | none => false
def AS.deep (L : List Nat) : Nat → AS → AS
  | 0, σ => σ
  | n + 1, σ => AS.deep L n (σ.frz (leafD σ L))
def reach (σ : AS) : Nat → List Nat → List Nat
  | 0, L => L
  | n + 1, L => L ++ reach σ n (L.flatMap fun k => match lk σ.objs k with
    | some ob => idsLL ob.xs
    | none => [])
def refsV (σ : AS) : AV → List Nat
  | .ref k _ _ => [k]
  | .agg cs => cs.flatMap fun c => match c with
    | .ref k _ _ => [k]
    | _ => []
  | .ptr k _ _ => match lk σ.objs k with
    | some ob => ob.xs.flatMap fun r => r.flatMap fun c => match c with
      | .ref q _ _ => [q]
      | _ => []
    | none => []
  | _ => []
def findD (t : Nat) : List Oper → Option Oper → Option Oper
  | [], r => r
  | o :: ops, r => findD t ops (match o.dst with
    | some d => if Nat.beq d t = true then some o else r
    | none => r)
def rootsX (σ : AS) (ops : List Oper) : Nat → Operand → List Nat
  | 0, _ => []
  | n + 1, .tmp t => match findD t ops none with
    | some o => match o.op with
      | .move y => rootsX σ ops n y
      | .assign y => rootsX σ ops n y
      | .load _ y => rootsX σ ops n y
      | .fieldAddr _ y _ => rootsX σ ops n y
      | .indexAddr _ y _ => rootsX σ ops n y
      | .nilCheck y => rootsX σ ops n y
      | .field _ y _ => rootsX σ ops n y
      | .extract y _ => rootsX σ ops n y
      | .slice _ y _ _ _ => rootsX σ ops n y
      | .build _ ps => ps.toList.flatMap fun p => rootsX σ ops n p.2
      | _ => []
    | none => match lk σ.slots t with
      | some av => refsV σ av
      | none => []
  | _ + 1, _ => []
def rootsR (σ : AS) (ops : List Oper) : List Nat := ops.flatMap fun o => match o.op with
  | .call { callee := .value _, args := args, argTypes := _ } => args.toList.flatMap fun x => rootsX σ ops 10 x
  | _ => []
theorem s_deep {P : Program} {B : Base} {c : Code} {Q : Exit → AS → Prop} (L : List Nat) : ∀ (n : Nat) {σ : AS}, SP P B c (σ.deep L n) Q → SP P B c σ Q
  | 0, _, k => k
  | n + 1, _, k => s_frz _ (s_deep L n k)
theorem R.deep {B : Base} {w : World} {a : Act} (L : List Nat) : ∀ (n : Nat) {G : Gh} {σ : AS}, R B G σ w a → ∃ G', R B G' (σ.deep L n) w a
  | 0, G, _, h => ⟨G, h⟩
  | n + 1, _, _, h => R.deep L n (h.frz _)
theorem sp_then {P : Program} {B : Base} {c : Code} {σ : AS} {Q : Exit → AS → Prop} (F : AS → AS) (hF : ∀ (B : Base) (G : Gh) (τ : AS) (w : World) (a : Act), R B G τ w a → ∃ G', R B G' (F τ) w a) (h : SP P B c σ (fun e τ => Q e (F τ))) : SP P B c σ Q := fun D G w a hr => by
  refine wpIn_mono (h D G w a hr) fun e a' w' hq => ?_
  obtain ⟨D', G', τ, hr', hq'⟩ := hq
  obtain ⟨G2, hr2⟩ := hF _ _ _ _ _ hr'
  exact ⟨D', G2, _, hr2, hq'⟩
section defs
variable (P : Program) (TT : TTab) (PT : PTab) (T : FuncId → Bool)
def callI (run : RunT) (f : FuncId) (avs : List AV) (E : Option Env) (objs : List (Nat × AObj)) (ids : List Nat) : Option (AV × List (Nat × AObj) × List Nat) :=
  if fnB P f = true then
    match P.funcs[f]? with
    | some fn => match fn.body with
      | some c => if Nat.ble avs.length fn.ntmps = true then
          match run false E c ⟨fn.ntmps, enumA 0 avs, objs, ids⟩ with
          | some (e, τ) => if isEnd e = true then
              match retA TT τ fn.results.toList with
              | some av => some (av, τ.objs, τ.ids)
              | none => none
            else none
          | none => none
        else none
      | none => none
    | none => none
  else none
def roundI (run : RunT) (E : Env) (avs : List AV) (objs : List (Nat × AObj)) (ids : List Nat) : Option (List (Nat × AObj) × List Nat) :=
  if Nat.beq avs.length E.ps.size = true then
    match run true none E.assign ⟨E.n, setps E.slots E.ps.toList avs, objs, ids⟩ with
    | some (.normal, τ1) => match run true none E.body τ1 with
      | some (.normal, τ2) => some (τ2.objs, τ2.ids)
      | _ => none
    | _ => none
  else none
def opC (run : RunT) (E : Option Env) (σ : AS) (o : Oper) (x : Operand) (args : List Operand) : Option AS :=
  match σ.evs args with
  | some avs => match σ.ev x with
    | some (.yld k) => match E with
      | some env => if Nat.beq env.yk k = true then
          match roundI run env avs σ.objs σ.ids with
          | some r => some (AS.put ⟨σ.n, σ.slots, r.1, r.2⟩ o.dst (.v (.bool true)))
          | none => none
        else none
      | none => none
    | _ => match σ.entry x avs with
      | some (f, L) => match callI P TT run f L none σ.objs σ.ids with
        | some r => some (AS.put ⟨σ.n, σ.slots, r.2.1, r.2.2⟩ o.dst r.1)
        | none => none
      | none => none
  | none => none
def asCall (o : Oper) : Option (Operand × Array Operand × Array TypeId) := match o.op with
  | .call { callee := .value x, args := args, argTypes := ts } => some (x, args, ts)
  | _ => none
def inT (σ : AS) (x : Operand) : Bool := match σ.callee x with
  | some (f, _) => T f
  | none => false
def deepA (σ : AS) (args : List Operand) : AS := match σ.evs args with
  | some avs => σ.deep (reach σ 3 (idsL avs)) 3
  | none => σ
def opT (ops : Array Oper) (σ : AS) (o : Oper) (x : Operand) (args : List Operand) : Option AS :=
  if inT T σ x = true then match stepA TT PT ops (nx σ.ids) σ o with
    | some s => some s
    | none => stepA TT PT ops (nx σ.ids) (deepA σ args) o
  else none
def opI (run : RunT) (E : Option Env) (ops : Array Oper) (σ : AS) (o : Oper) : Option AS :=
  match asCall o with
  | some (x, args, _) => match opT TT PT T ops σ o x args.toList with
    | some s => some s
    | none => if dstOk σ o = true then
      match wantA σ ops o with
      | some true => opC P TT run E σ o x args.toList
      | some false => some (σ.put o.dst (.v undef))
      | none => none
    else none
  | none => stepX TT PT ops (nx σ.ids) σ o
def frzR (fn : Func) (τ : AS) : AS := match retA TT τ fn.results.toList with
  | some av => if av.ids.isEmpty then τ else τ.deep (reach τ 3 av.ids) 3
  | none => τ
def callP (run : RunT) (f : FuncId) (avs : List AV) : Option AV :=
  if fnB P f = true then
    match P.funcs[f]? with
    | some fn => match fn.body with
      | some c => if Nat.ble avs.length fn.ntmps = true then
          match run false none c ⟨fn.ntmps, enumA 0 avs, [], []⟩ with
          | some (e, τ) => if isEnd e = true then
              match retA TT (frzR TT fn τ) fn.results.toList with
              | some av => (frzR TT fn τ).shut (fun _ => true) av
              | none => none
            else none
          | none => none
        else none
      | none => none
    | none => none
  else none
def pureI (run : RunT) : PTab := fun f avs => if T f = true then PT f avs else
  match callP P TT run f avs with
  | some res => some (res, false)
  | none => none
def drawI (run : RunT) (ops : Array Oper) (σ : AS) : Option AS := match runE TT (pureI P TT PT T run) ops ops.toList (nxt σ) σ with
  | some (τ, es) => if ordOk ops.toList es = true then some τ else none
  | none => none
def lentN (σ : AS) (L : List AV) : List Nat := dd (reach σ 4 (idsL L))
def closedN (σ : AS) (fs : List Nat) : Bool := fs.all fun k => match lk σ.objs k with
  | some ob => (idsLL ob.xs).all fs.contains
  | none => true
def effN1 (run : RunT) (ops : Array Oper) (id : Nat) (σ : AS) (o : Oper) (f : FuncId) (L : List AV) (fs : List Nat) : Option Ef :=
  if ((idsL L).all fs.contains && closedN σ fs) = true then
    match callI P TT run f L none (σ.objs.filter fun p => fs.contains p.1) ((id * 4096 + 100000) :: fs) with
    | some r => if r.2.2.all (fun k => fs.contains k || !(σ.ids.contains k)) = true then some ⟨o.dst, r.1, r.2.2.reverse.map fun k => (k, lk r.2.1 k), looksO ops o, fs ++ r.2.2, none⟩ else none
    | none => none
  else none
def effN (run : RunT) (ops : Array Oper) (id : Nat) (σ : AS) (o : Oper) : Option Ef :=
  match asCall o with
  | some (x, args, _) => if dstOk σ o = true then
      match wantA σ ops o with
      | some true => match σ.evs args.toList with
        | some avs => match σ.entry x avs with
          | some (f, L) => effN1 P TT run ops id σ o f L (lentN σ L)
          | none => none
        | none => none
      | _ => none
    else none
  | none => none
def effX (run : RunT) (ops : Array Oper) (id : Nat) (σ : AS) (o : Oper) : Option Ef := match effA TT (pureI P TT PT T run) ops id σ o with
  | some e => some e
  | none => effN P TT run ops id σ o
def drawN (run : RunT) (ops : Array Oper) (σ : AS) : Option AS := match runG (effX P TT PT T run ops) ops.toList (nxt σ) σ with
  | some (τ, es) => if ordOk ops.toList es = true then some τ else none
  | none => none
def opsI (run : RunT) (E : Option Env) (ops : Array Oper) : List Oper → AS → Option AS
  | [], σ => some σ
  | o :: r, σ => match opI P TT PT T run E ops σ o with
    | some σ' => opsI run E ops r σ'
    | none => none
def runI : Nat → Bool → Option Env → Code → AS → Option (Exit × AS)
  | 0, _, _, _, _ => none
  | n + 1, R, E, c, σ => match c with
    | .skip => some (.normal, σ)
    | .ret => some (.ret, σ)
    | .exit i => some (.exit i, σ)
    | .seq a b => match runI n R E a σ with
      | some (.normal, τ) => runI n R E b τ
      | r => r
    | .cond x a b => match σ.ev x with
      | some (.v (.bool true)) => runI n R E a σ
      | some (.v (.bool false)) => runI n R E b σ
      | _ => none
    | .block i a => match runI n R E a σ with
      | some (.exit j, τ) => if Nat.beq j i = true then some (.normal, τ) else some (.exit j, τ)
      | r => r
    | .loop a => match runI n R E a σ with
      | some (.normal, τ) => runI n R E (.loop a) τ
      | r => r
    | .region _ ops false => match opsI P TT PT T (runI n) E ops ops.toList σ with
      | some τ => some (.normal, τ)
      | none => none
    | .region _ ops true => match drawI P TT PT T (runI n) ops σ with
      | some τ => some (.normal, τ)
      | none => match drawN P TT PT T (runI n) ops σ with
        | some τ => some (.normal, τ)
        | none => match drawI P TT PT T (runI n) ops (σ.deep (reach σ 3 (rootsR σ ops.toList)) 3) with
          | some τ => some (.normal, τ)
          | none => none
    | .rangeFunc g ps assign body => match R with
      | true => none
      | false => match σ.callee g with
        | some (f, cs) => if σ.ids.contains (nx σ.ids) = true then none else
            if ps.toList.all (fun t => Nat.blt t σ.n) = true then
              match callI P TT (runI n) f (.yld (nx σ.ids) :: cs) (some ⟨nx σ.ids, σ.n, σ.slots, ps, assign, body⟩) σ.objs (nx σ.ids :: σ.ids) with
              | some r => some (.normal, ⟨σ.n, σ.slots, r.2.1, r.2.2⟩)
              | none => none
            else none
        | none => none
    | _ => none
end defs

section sound
variable {P : Program} {TT : TTab} {PT : PTab} {T : FuncId → Bool} {B : Base} {σ : AS} {Q : Exit → AS → Prop}
def To (r : Exit × AS) (e : Exit) (τ : AS) : Prop := e = r.1 ∧ τ = r.2
def EnvOk (P : Program) (B : Base) (E : Option Env) : Prop := ∀ e, E = some e → YieldOk P B e.yk e.n e.slots e.ps e.assign e.body
def RunOk (P : Program) (run : RunT) : Prop := ∀ R E c σ r, run R E c σ = some r → ∀ B : Base, (R = false → B.ro = none) → EnvOk P B E → SP P B c σ (To r)

theorem callI_ok {run : RunT} (hrun : RunOk P run) {f : FuncId} {avs : List AV} {E : Option Env} {objs : List (Nat × AObj)} {ids : List Nat} {r : AV × List (Nat × AObj) × List Nat} (h : callI P TT run f avs E objs ids = some r) :
    fnB P f = true ∧ ∃ fn c, P.funcs[f]? = some fn ∧ fn.body = some c ∧ avs.length ≤ fn.ntmps ∧ ∀ B : Base, B.ro = none → EnvOk P B E → SP P B c ⟨fn.ntmps, enumA 0 avs, objs, ids⟩ (fun e τ => (e = .normal ∨ e = .ret) ∧ ∃ av, retA TT τ fn.results.toList = some av ∧ (av, τ.objs, τ.ids) = r) := by
  unfold callI at h
  split at h
  · rename_i hB
    refine ⟨hB, ?_⟩
    split at h
    · rename_i fn hfn
      split at h
      · rename_i c hc
        split at h
        · rename_i hle
          refine ⟨fn, c, hfn, hc, Nat.le_of_ble_eq_true hle, fun B hro hE => ?_⟩
          split at h
          · rename_i e τ hr
            split at h
            · rename_i he
              split at h
              · rename_i av hav
                cases h
                refine sp_mono (hrun _ _ _ _ _ hr B (fun _ => hro) hE) fun e' τ' ht => ?_
                obtain ⟨h1, h2⟩ := ht
                subst h2
                refine ⟨?_, av, hav, rfl⟩
                have h3 : e' = e := h1
                subst h3
                cases e' <;> first | exact .inl rfl | exact .inr rfl | cases he
              · cases h
            · cases h
          · cases h
        · cases h
      · cases h
    · cases h
  · cases h
theorem asCall_eq {o : Oper} {x : Operand} {args : Array Operand} {ts : Array TypeId} (h : asCall o = some (x, args, ts)) : o.op = .call { callee := .value x, args := args, argTypes := ts } := by
  unfold asCall at h
  split at h
  · rename_i ho; cases h; exact ho
  · cases h
theorem spl_skip {ops : Array Oper} {o : Oper} {r : List Oper} (hd : dstOk σ o = true) (hw : wantA σ ops o = some false) (k : SPL P B ops r (σ.put o.dst (.v undef)) Q) : SPL P B ops (o :: r) σ Q := fun D G w a hr => by
  unfold wpListIn
  rw [if_neg (by rw [wantA_ok hr hw]; simp)]
  exact ⟨fun _ _ => trivial, k D G w _ (hr.put (R.dst (G := G) (w := w) (a := a) (σ := σ) hd) (.v _))⟩
theorem spl_deep {ops : Array Oper} {l : List Oper} (L : List Nat) (n : Nat) (h : SPL P B ops l (σ.deep L n) Q) : SPL P B ops l σ Q := fun D G w a hr => by
  obtain ⟨G', h'⟩ := R.deep L n hr
  exact h D G' w a h'
theorem opI_ok (hTT : TTok P TT) (hPT : PTok P PT) {run : RunT} (hrun : RunOk P run) {E : Option Env} {ops : Array Oper} {o : Oper} {r : List Oper} {σ' : AS} (h : opI P TT PT T run E ops σ o = some σ') (hE : EnvOk P B E) (k : SPL P B ops r σ' Q) : SPL P B ops (o :: r) σ Q := by
  unfold opI at h
  split at h
  · rename_i x args ts ha
    have ho := asCall_eq ha
    split at h
    · rename_i s hs
      cases h
      unfold opT at hs
      split at hs
      · split at hs
        · rename_i s' hs'
          cases hs
          exact spl_step hTT hPT hs' k
        · unfold deepA at hs
          split at hs
          · exact spl_deep _ _ (spl_step hTT hPT hs k)
          · exact spl_step hTT hPT hs k
      · cases hs
    split at h
    · rename_i hd
      split at h
      · rename_i hw
        unfold opC at h
        split at h
        · rename_i avs hev
          split at h
          · rename_i y hx
            split at h
            · rename_i env
              split at h
              · rename_i hy
                have hy' : env.yk = y := Nat.eq_of_beq_eq_true hy
                split at h
                · rename_i rr hrr
                  cases h
                  unfold roundI at hrr
                  split at hrr
                  · rename_i hlen
                    split at hrr
                    · rename_i τ1 h1
                      split at hrr
                      · rename_i τ2 h2
                        cases hrr
                        refine hE env rfl ops o r σ Q x args ts avs hd hw ho (by rw [hy']; exact hx) hev (Nat.eq_of_beq_eq_true hlen) fun B1 hI1 hro1 => ?_
                        refine sp_mono (hrun _ _ _ _ _ h1 B1 (fun e => by cases e) (fun e he => by cases he)) fun e τ ht => ?_
                        obtain ⟨rfl, rfl⟩ := ht
                        refine ⟨rfl, fun B2 hI2 hro2 => ?_⟩
                        refine sp_mono (hrun _ _ _ _ _ h2 B2 (fun e => by cases e) (fun e he => by cases he)) fun e τ ht => ?_
                        obtain ⟨rfl, rfl⟩ := ht
                        exact ⟨rfl, k⟩
                      · cases hrr
                    · cases hrr
                  · cases hrr
                · cases h
              · cases h
            · cases h
          · split at h
            · rename_i f L hx
              split at h
              · rename_i rr hrr
                cases h
                obtain ⟨hB, fn, c, hf, hb, hle, hsp⟩ := callI_ok hrun hrr
                refine spl_enter hTT hd hw ho hB hf hb (enters_entry ho hB hx hev) hle fun B' hI hro => ?_
                refine sp_mono (hsp B' hro (fun e he => by cases he)) fun e τ ⟨he, av, hav, heq⟩ => ⟨he, av, hav, ?_⟩
                have h1 : av = rr.1 := by rw [← heq]
                have h2 : τ.objs = rr.2.1 := by rw [← heq]
                have h3 : τ.ids = rr.2.2 := by rw [← heq]
                rw [h1, h2, h3]
                exact k
              · cases h
            · cases h
        · cases h
      · rename_i hw
        cases h
        exact spl_skip hd hw k
      · cases h
    · cases h
  · exact spl_stepX hTT hPT h k
theorem opsI_ok (hTT : TTok P TT) (hPT : PTok P PT) {run : RunT} (hrun : RunOk P run) {E : Option Env} {ops : Array Oper} (hE : EnvOk P B E) : ∀ (l : List Oper) (σ σ' : AS), opsI P TT PT T run E ops l σ = some σ' → Q .normal σ' → SPL P B ops l σ Q
  | [], σ, σ', h, k => by
    simp only [opsI, Option.some.injEq] at h
    subst h
    exact spl_nil k
  | o :: r, σ, σ', h, k => by
    simp only [opsI] at h
    split at h
    · rename_i σ1 h1
      exact opI_ok hTT hPT hrun h1 hE (opsI_ok hTT hPT hrun hE r σ1 σ' h k)
    · cases h
theorem frzR_ok {fn : Func} {B : Base} {G : Gh} {τ : AS} {w : World} {a : Act} (hr : R B G τ w a) : ∃ G', R B G' (frzR TT fn τ) w a := by
  unfold frzR
  split
  · split
    · exact ⟨G, hr⟩
    · exact R.deep _ 3 hr
  · exact ⟨G, hr⟩
theorem pure_call (hTT : TTok P TT) {run : RunT} (hrun : RunOk P run) {f : FuncId} {args : List AV} {res : AV} (h : callP P TT run f args = some res) : fnB P f = true ∧ FnPure P f args res := by
  unfold callP at h
  split at h
  · rename_i hB
    refine ⟨hB, ?_⟩
    split at h
    · rename_i fn hfn
      split at h
      · rename_i c hc
        split at h
        · rename_i hle
          split at h
          · rename_i e τ hr
            split at h
            · rename_i he
              split at h
              · rename_i av hav
                refine fn_sp hTT hfn hc (Nat.le_of_ble_eq_true hle) fun B _ hro => sp_then (frzR TT fn) (fun B G τ w a hr => frzR_ok hr) (sp_mono (hrun _ _ _ _ _ hr B (fun _ => hro) (fun e he => by cases he)) fun e' τ' ht => ?_)
                obtain ⟨h1, h2⟩ := ht
                subst h2
                refine ⟨?_, av, hav, h⟩
                have h3 : e' = e := h1
                subst h3
                cases e' <;> first | exact .inl rfl | exact .inr rfl | cases he
              · cases h
            · cases h
          · cases h
        · cases h
      · cases h
    · cases h
  · cases h
theorem pureI_ok (hTT : TTok P TT) (hPT : PTok P PT) {run : RunT} (hrun : RunOk P run) : PTok P (pureI P TT PT T run) := fun f args res fr h => by
  unfold pureI at h
  split at h
  · exact hPT f args res fr h
  · split at h
    · rename_i res' hc
      cases h
      obtain ⟨h1, h2⟩ := pure_call hTT hrun hc
      exact ⟨h1, h2, fun e => by cases e⟩
    · cases h
theorem drawI_ok (hP : P.follows .mixedOrders = true) (hTT : TTok P TT) (hPT : PTok P PT) {run : RunT} (hrun : RunOk P run) {id : Nat} {ops : Array Oper} {τ : AS} (h : drawI P TT PT T run ops σ = some τ) (k : Q .normal τ) : SP P B (.region id ops true) σ Q := by
  unfold drawI at h
  split at h
  · rename_i τ' es h1
    split at h
    · rename_i hok
      cases h
      exact s_draw hP hTT (pureI_ok hTT hPT hrun) h1 hok k
    · cases h
  · cases h
theorem lk_keep {α : Type} (D : Nat → Bool) : ∀ (l : List (Nat × α)) (t : Nat), lk (l.filter fun p => D p.1) t = if D t = true then lk l t else none
  | [], t => by simp [lk]
  | (e, u) :: r, t => by
    rw [List.filter_cons]
    by_cases h : D e = true
    · simp only [h, if_true]
      simp only [lk]
      rw [lk_keep D r t]
      by_cases he : e = t
      · subst he; simp [h]
      · simp [he]
    · simp only [h, Bool.false_eq_true, if_false]
      rw [lk_keep D r t]
      by_cases he : e = t
      · subst he; simp [h]
      · simp [lk, he]
theorem effN_ok (hTT : TTok P TT) {run : RunT} (hrun : RunOk P run) {ops : Array Oper} {id : Nat} {σ : AS} {o : Oper} {e : Ef} (h : effN P TT run ops id σ o = some e) : EffOk P B ops σ o e := by
  unfold effN at h
  split at h
  · rename_i x args ts hac
    have ho := asCall_eq hac
    split at h
    · rename_i hd
      split at h
      · rename_i hwt
        split at h
        · rename_i avs havs
          split at h
          · rename_i f L hent
            unfold effN1 at h
            split at h
            · rename_i hcc
              rw [Bool.and_eq_true] at hcc
              split at h
              · rename_i r hcall
                split at h
                · rename_i hnew0
                  cases h
                  generalize lentN σ L = fs at *
                  obtain ⟨av, objs', ids'⟩ := r
                  simp only at hnew0
                  intro τ hn hs hobj hid hsh G w a hr K Q hK
                  simp only at hs hobj hid
                  have hd' : dstOk τ o = true := by unfold dstOk at hd ⊢; rw [hn]; exact hd
                  have hev : ∀ x ∈ o.op.operands.toList, τ.ev x = σ.ev x := fun x hx => by
                    cases x with
                    | tmp t => exact hs t (by rw [looksO, List.mem_append]; exact .inl (List.mem_filterMap.2 ⟨.tmp t, hx, rfl⟩))
                    | _ => rfl
                  have hw : wantA τ ops o = wantA σ ops o := by
                    unfold wantA
                    split
                    · rfl
                    · rename_i j want hg
                      split
                      · rename_i t ht
                        rw [hs t (by rw [looksO, List.mem_append]; right; rw [hg]; simp only [ht]; simp)]
                      · rfl
                  rw [← hw] at hwt
                  have hops : ∀ y, y = x ∨ y ∈ args.toList → y ∈ o.op.operands.toList := fun y hy => by
                    rw [ho]
                    simp only [Op.operands]
                    unfold Call.operands
                    simp only [Array.toList_append, List.mem_append]
                    rcases hy with rfl | hy
                    · left; simp
                    · exact .inr hy
                  have havs' : τ.evs args.toList = some avs := by rw [evs_congr fun y hy => hev y (hops y (.inr hy))]; exact havs
                  have hent' : τ.entry x avs = some (f, L) := by
                    rw [← hent]
                    unfold AS.entry AS.callee AS.bound
                    rw [hev x (hops x (.inl rfl))]
                  obtain ⟨hfn, fn, c, hf, hb, hle, hsp⟩ := callI_ok hrun hcall
                  rw [if_pos (wantA_ok hr hwt)]
                  obtain ⟨argv, hop, h1, h2⟩ := enters_entry ho hfn hent' havs' B G w a hr
                  have hfp : ∀ k ∈ fs, lk τ.objs k = lk σ.objs k := fun k hk => hobj k (List.mem_append_left _ hk)
                  have hF : ∀ k, lk (σ.objs.filter fun p => fs.contains p.1) k = if k ∈ fs then lk τ.objs k else none := fun k => by
                    rw [lk_keep (fun k => fs.contains k)]
                    by_cases hk : k ∈ fs
                    · rw [if_pos (by simpa using hk), if_pos hk, hfp k hk]
                    · rw [if_neg (by simpa using hk), if_neg hk]
                  have hsub0 : ∀ k ∈ fs, k ∈ (id * 4096 + 100000) :: fs := fun k hk => List.mem_cons_of_mem _ hk
                  have hL : ∀ k ∈ idsL L, k ∈ fs := fun k hk => by
                    have := List.all_eq_true.1 hcc.1 k hk
                    simpa using this
                  have hcl : ∀ k ∈ fs, ∀ ob, lk τ.objs k = some ob → ∀ q ∈ idsLL ob.xs, q ∈ fs := fun k hk ob hob q hq => by
                    have h3 := List.all_eq_true.1 hcc.2 k hk
                    rw [← hfp k hk, hob] at h3
                    have := List.all_eq_true.1 h3 q hq
                    simpa using this
                  refine ⟨fun _ _ => trivial, ?_⟩
                  rw [show (FR B.ro).round = B.ro from rfl, Oper.semAt_eq B.ro a.eval o (fun c hc => by rw [ho] at hc; cases hc), hop, Oper.uponIn_enter]
                  refine ⟨fun e => (by cases e), FR_calls.2 ?_⟩
                  have hsub := hr.subF hF hsub0 hcl (n := fn.ntmps) (slots := enumA 0 L) (a' := { tmps := argv ++ Array.replicate (fn.ntmps - argv.size) undef, defers := [] }) (by simp; omega) (fun t av ht => by
                    obtain ⟨q1, q2⟩ := entry_slots (m := fn.ntmps - argv.size) hle h1 h2 t av ht
                    refine ⟨q1, q2, fun k hk => hsub0 k (hL k ?_)⟩
                    obtain ⟨_, q3, q4⟩ := lk_enumA L 0 t av ht
                    simp only [Nat.zero_add, Nat.sub_zero] at q3 q4
                    subst q4
                    exact idsL_mem q3 hk) rfl
                  refine (call_sp hTT hf hb rfl hsub (K := fun av' τ' => (av', τ'.objs, τ'.ids) = (av, objs', ids')) (hsp _ rfl (fun e he => by cases he))).mono fun e w' hq => ?_
                  obtain ⟨v, G2, τ2, av2, a2, rfl, hr2, hv, hK2⟩ := hq
                  simp only [Prod.mk.injEq] at hK2
                  obtain ⟨rfl, rfl, rfl⟩ := hK2
                  have hnew : ∀ k ∈ τ2.ids, k ∉ fs → k ∉ τ.ids := fun k hk hkf => by
                    have h3 := List.all_eq_true.1 hnew0 k hk
                    rw [hid k (List.mem_append_right _ hk)]
                    simpa [hkf] using h3
                  obtain ⟨G', hle2, hle', hr3⟩ := hr.backF hF hsub0 hr2 hnew
                  refine hK G' w' _ ?_
                  have := hr3.put (fun d hdd => R.dst (G := G) (w := w) (a := a) hd' d hdd) (hv.mono hle2)
                  unfold Ef.app Ef.pk pntO
                  simpa [AS.upd] using this
                · cases h
              · cases h
            · cases h
          · cases h
        · cases h
      · cases h
    · cases h
  · cases h
theorem drawN_ok (hP : P.follows .mixedOrders = true) (hTT : TTok P TT) (hPT : PTok P PT) {run : RunT} (hrun : RunOk P run) {id : Nat} {ops : Array Oper} {τ : AS} (h : drawN P TT PT T run ops σ = some τ) (k : Q .normal τ) : SP P B (.region id ops true) σ Q := by
  unfold drawN at h
  split at h
  · rename_i τ' es h1
    split at h
    · rename_i hok
      cases h
      refine s_drawG hP (fun D id σ o e he => ?_) h1 hok k
      unfold effX at he
      split at he
      · rename_i e' h2
        cases he
        exact effA_eff hTT (pureI_ok hTT hPT hrun) h2
      · exact effN_ok hTT hrun he
    · cases h
  · cases h
theorem runI_ok (hP : P.follows .mixedOrders = true) (hTT : TTok P TT) (hPT : PTok P PT) : ∀ n, RunOk P (runI P TT PT T n)
  | 0 => fun R E c σ r h => by cases h
  | n + 1 => by
    have ih := runI_ok hP hTT hPT n
    intro Rd E c σ r h B hro hE
    cases c with
    | skip => simp only [runI, Option.some.injEq] at h; subst h; exact sp_skip ⟨rfl, rfl⟩
    | ret => simp only [runI, Option.some.injEq] at h; subst h; exact sp_ret ⟨rfl, rfl⟩
    | exit i => simp only [runI, Option.some.injEq] at h; subst h; exact sp_exit ⟨rfl, rfl⟩
    | seq a b =>
      simp only [runI] at h
      split at h
      · rename_i τ h1
        refine sp_seq (sp_mono (ih _ _ _ _ _ h1 B hro hE) fun e τ' ht => ?_)
        obtain ⟨rfl, rfl⟩ := ht
        exact ih _ _ _ _ _ h B hro hE
      · rename_i hne
        refine sp_seq (sp_mono (ih _ _ _ _ _ h B hro hE) fun e τ' ht => ?_)
        obtain ⟨rfl, rfl⟩ := ht
        obtain ⟨e, τ⟩ := r
        cases e <;> first | exact absurd h (hne _) | exact ⟨rfl, rfl⟩
    | cond x a b =>
      simp only [runI] at h
      split at h
      · rename_i hx
        exact sp_cond hx (fun _ => ih _ _ _ _ _ h B hro hE) (fun e => by cases e)
      · rename_i hx
        exact sp_cond hx (fun e => by cases e) (fun _ => ih _ _ _ _ _ h B hro hE)
      · cases h
    | block i a =>
      simp only [runI] at h
      split at h
      · rename_i j τ h1
        refine sp_block (sp_mono (ih _ _ _ _ _ h1 B hro hE) fun e τ' ht => ?_)
        obtain ⟨rfl, rfl⟩ := ht
        split at h
        · rename_i hj
          cases h
          show if j = i then _ else _
          rw [if_pos (Nat.eq_of_beq_eq_true hj)]
          exact ⟨rfl, rfl⟩
        · rename_i hj
          cases h
          show if j = i then _ else _
          rw [if_neg (fun e => hj (by subst e; exact Nat.beq_refl _))]
          exact ⟨rfl, rfl⟩
      · rename_i hne
        refine sp_block (sp_mono (ih _ _ _ _ _ h B hro hE) fun e τ' ht => ?_)
        obtain ⟨rfl, rfl⟩ := ht
        obtain ⟨e, τ⟩ := r
        cases e <;> first | exact absurd h (hne _ _) | exact ⟨rfl, rfl⟩
    | loop a =>
      have key : ∀ m, m ≤ n + 1 → ∀ σ, runI P TT PT T m Rd E (.loop a) σ = some r → ∀ D G w ac, R (B.d D) G σ w ac → Code.roundsIn (FR B.ro) 0 P a (Post B (To r)) m ac w := by
        intro m
        induction m with
        | zero => intro _ σ h; cases h
        | succ m ihm =>
          intro hm σ h D G w ac hr
          have ihm' := ihm (by omega)
          have ihc : RunOk P (runI P TT PT T m) := runI_ok hP hTT hPT m
          simp only [runI] at h
          rw [roundsIn_succ]
          split at h
          · rename_i τ h1
            refine wpIn_mono (ihc _ _ _ _ _ h1 B hro hE D G w ac hr) fun e a' w' hq => ?_
            obtain ⟨D', G', τ', hr', g1, g2⟩ := hq
            have g3 : τ' = τ := g2
            have g4 : e = .normal := g1
            subst g3 g4
            exact ihm' _ h D' G' w' a' hr'
          · rename_i hne
            refine wpIn_mono (ihc _ _ _ _ _ h B hro hE D G w ac hr) fun e a' w' hq => ?_
            obtain ⟨D', G', τ', hr', rfl, rfl⟩ := hq
            obtain ⟨e, τ⟩ := r
            cases e <;> first | exact absurd h (hne _) | exact ⟨D', G', _, hr', rfl, rfl⟩
      exact fun D G w ac hr => wpIn_loop_rounds (n + 1) (key (n + 1) (Nat.le_refl _) σ h D G w ac hr)
    | region id ops dr =>
      cases dr with
      | false =>
        simp only [runI] at h
        split at h
        · rename_i τ h1
          cases h
          exact s_regionL (opsI_ok hTT hPT ih hE _ _ _ h1 ⟨rfl, rfl⟩)
        · cases h
      | true =>
        simp only [runI] at h
        split at h
        · rename_i τ h1
          cases h
          exact drawI_ok hP hTT hPT ih h1 ⟨rfl, rfl⟩
        · split at h
          · rename_i τ h1
            cases h
            exact drawN_ok hP hTT hPT ih h1 ⟨rfl, rfl⟩
          · split at h
            · rename_i τ h1
              cases h
              exact s_deep _ 3 (drawI_ok hP hTT hPT ih h1 ⟨rfl, rfl⟩)
            · cases h
    | rangeFunc g ps assign body =>
      simp only [runI] at h
      split at h
      · cases h
      · split at h
        · rename_i f cs hg
          split at h
          · cases h
          · rename_i hin
            split at h
            · rename_i hps
              split at h
              · rename_i rr hrr
                cases h
                obtain ⟨hB, fn, c, hf, hb, hle, hsp⟩ := callI_ok ih hrr
                refine s_range hTT (nx σ.ids) (by simpa using hin) (hro rfl) hg hB hf hb hle (fun t ht => by
                  have := List.all_eq_true.1 hps t ht
                  exact Nat.le_of_ble_eq_true (by simpa [Nat.blt] using this)) fun B' hI hro' hY => ?_
                refine sp_mono (hsp B' hro' (fun e he => by cases he; exact hY)) fun e τ ⟨he, av, hav, heq⟩ => ⟨he, av, hav, ?_⟩
                have h1 : τ.objs = rr.2.1 := by rw [← heq]
                have h2 : τ.ids = rr.2.2 := by rw [← heq]
                exact ⟨rfl, by rw [h1, h2]⟩
              · cases h
            · cases h
        · cases h
    | _ => simp only [runI] at h; cases h

def resI (P : Program) (TT : TTab) (PT : PTab) (T : FuncId → Bool) (n : Nat) (f : FuncId) (args : List AV) : Option AV := callP P TT (runI P TT PT T n) f args
theorem fn_run (hP : P.follows .mixedOrders = true) (hTT : TTok P TT) (hPT : PTok P PT) {n : Nat} {f : FuncId} {args : List AV} {res : AV} (h : resI P TT PT T n f args = some res) : FnPure P f args res :=
  (pure_call hTT (runI_ok hP hTT hPT n) h).2
end sound
end Go.Proofs.YtafikekndefjcaaDoor
/- Lift: From a function that only computes to a law's statement: arguments that read as data stand for abstract values; plain lemmas over any program; no condition. -/
namespace Go.Proofs.YtafikekndefjcaaDoor
set_option linter.unusedVariables false
set_option linter.unusedSimpArgs false
set_option linter.unusedSectionVars false
open Go.RowKit Go.WideShapes Go.ChangeShapes Go.ChangeAt

section
variable {H : Type} {enc : TypeId × Value → H} {P : Program}
theorem post_of_below {f : Func} {s : ChangeSpec} {apart fresh handsOn again : Bool} {W W' : World} {args : Array Value} {v : Value} {ds gs : List (DataW H)} {before pa pv : List MemPlace}
    (hW : DataW.Whole enc P f.params.toList s.vars apart W args.toList ds gs before)
    (hres : ∀ (b : Nat) (sp : Nat → Bool) (hd : Bool), DataW.TrodAll enc P W' b sp hd f.resultTypes.toList (v.resultList f.resultTypes.size) (s.fn H (ds ++ gs)).results [])
    (hargs : ∀ sp : Nat → Bool, (∀ p ∈ before, sp p.block = true) → DataW.TrodAll enc P W' 0 sp true f.params.toList args.toList (s.fn H (ds ++ gs)).args pa)
    (hvars : ∀ sp : Nat → Bool, (∀ p ∈ before, sp p.block = true) → DataW.TrodVars enc P W' sp s.vars (s.fn H (ds ++ gs)).vars pv)
    (hps : before = pa ++ pv) (hb : Below W.heap.size W W')
    (hok : ∀ (j : Nat) (t : TypeId) (r : Value), f.resultTypes[j]? = some t → (v.resultList f.resultTypes.size)[j]? = some r → Value.okWide P W' .any 0 t r) :
    s.post enc P f apart fresh handsOn again W args v W' := by
  have hlt : ∀ p ∈ before, p.block < W.heap.size := fun p hp => hW.lt p hp
  have hold : ∀ p ∈ before, (fun b => decide (b < W.heap.size)) p.block = true := fun p hp => by simpa using hlt p hp
  refine ⟨ds, gs, before, [], pa, pv, hW, hres _ _ _, hargs _ hold, hvars _ hold, World.keptBut_mono (fun p hp => ⟨hp, ?_⟩) (hb.frame (· ∈ before)), fun _ => ?_⟩
  · rw [hps, List.mem_append] at hp
    exact Or.inr hp
  · obtain ⟨_, _, _, _, _, hz, hn⟩ := hW
    refine ⟨hok, _, _, ([] ++ pa) ++ pv, ⟨[] ++ pa, pv, trodAll_append (hargs _ (fun _ _ => rfl)) (hres _ _ _), hvars _ (fun _ _ => rfl), rfl, ?_, ?_⟩, ?_⟩
    · intro b off hp
      have hin : MemPlace.cell b off ∈ before := by rw [hps]; simpa using hp
      rw [hb.frozen (hlt _ hin)]
      exact hz b off hin
    · intro ha
      have := hn ha
      rw [hps] at this
      simpa using this
    · intro p hp _
      rw [hps]
      simpa using hp
end

def allS (W : World) : Nat → Nat → Option Value := fun b o => W.cell? ⟨b, o, none⟩

theorem allS_ok (W : World) (hg : GlobIn (allS W)) : StOk (allS W) W := ⟨fun _ _ _ h => h, hg⟩
def RowR (W : World) (row : List AV) (cs : List Value) : Prop := row.length = cs.length ∧ ∀ j, j < cs.length → (cs.getD j undef).oneCell' = true ∧ Rv (G0 (allS W)) (row.getD j .any) (cs.getD j undef)
theorem RowR.one {W : World} {a : AV} {v : Value} (h1 : v.oneCell' = true) (h : Rv (G0 (allS W)) a v) : RowR W [a] [v] :=
  ⟨rfl, fun j hj => by simp at hj; subst hj; exact ⟨h1, h⟩⟩
theorem RowR.cat {W : World} {r s : List AV} {cs ds : List Value} (h : RowR W r cs) (k : RowR W s ds) : RowR W (r ++ s) (cs ++ ds) := by
  refine ⟨by simp [h.1, k.1], fun j hj => ?_⟩
  rw [List.length_append] at hj
  have h1 := h.1
  by_cases hlt : j < cs.length
  · have := h.2 j hlt
    simpa [List.getD, List.getElem?_append, hlt, show j < r.length by omega] using this
  · have := k.2 (j - cs.length) (by omega)
    simpa [List.getD, List.getElem?_append, hlt, show ¬ j < r.length by omega, h1] using this

section
variable {H : Type} {enc : TypeId × Value → H} {P : Program} {W : World}
def Opens (enc : TypeId × Value → H) (P : Program) (W : World) (t : TypeId) (Q : List AV → Prop) : Prop :=
  ∀ base sp held fuel cs x, DataW.trod enc P W base sp held fuel t cs = some x → ∃ row, RowR W row cs ∧ Q row
theorem Opens.mono {t : TypeId} {Q Q' : List AV → Prop} (h : Opens enc P W t Q) (hq : ∀ r, Q r → Q' r) : Opens enc P W t Q' := fun b sp hd f cs x hx => by
  obtain ⟨r, h1, h2⟩ := h b sp hd f cs x hx
  exact ⟨r, h1, hq r h2⟩
theorem opens_int {t : TypeId} {k : IntKind} (ht : P.underlying t = some (.int k)) : Opens enc P W t (fun r => ∃ x, r = [.v (.int k x)] ∧ (Lit.int k x).wf = true) := fun b sp hd f cs x hx => by
  obtain ⟨n, rfl, _, hw⟩ := DataW.trod_int ht hx
  exact ⟨_, .one rfl (.v _), n, rfl, hw⟩
theorem opens_slice {t e : TypeId} {sz : Nat} {Q : List AV → Prop} (ht : P.underlying t = some (.slice e)) (hsz : P.cellsOf e = sz) (h0 : 0 < sz) (he : Opens enc P W e Q) :
    Opens enc P W t (fun r => ∃ xs, r = [.sl sz xs] ∧ xs.length ≤ AMax ∧ ∀ q ∈ xs, Q q) := fun b sp hd f cs x hx => by
  rcases Go.Deep.open_slice ht hx with ⟨rfl, _⟩ | ⟨a, len, cap, m, n, D, Pl, rfl, hb, hl, hm, hmm, _, hel⟩
  · exact ⟨_, .one rfl (rv_nil0 sz), [], rfl, Nat.zero_le _, fun q hq => by cases hq⟩
  · have hlm : len ≤ m := by rw [hmm]; split <;> omega
    have hmx : len ≤ AMax := by have : maxLen = AMax := rfl; omega
    by_cases hz : len = 0
    · subst hz
      exact ⟨_, .one rfl (.sl sz [] (some a) 0 cap (fun _ _ => undef) rfl hl (Nat.zero_le _) (fun h => by cases h) (fun i hi => by simp at hi) (fun hp => by simp at hp) (fun i j hi => by simp at hi) (fun i j hi => by simp at hi)), [], rfl, Nat.zero_le _, fun q hq => by cases hq⟩
    · obtain ⟨bb, o, rfl⟩ : ∃ bb o, a = ⟨bb, o, none⟩ := by
        obtain ⟨cs', h1, _⟩ := hel 0 (by omega)
        obtain ⟨_, h5, h6⟩ := World.cells?_some h1
        rw [hsz] at h5 h6
        have h7 := h6 0 h0
        rw [List.getElem?_eq_getElem (by omega)] at h7
        have := World.cell?_spot h7
        obtain ⟨b', o', s'⟩ := a
        have hs : s' = none := by simpa [Addr.add] using this
        exact ⟨b', o', by rw [hs]⟩
      have key : ∀ i, i < len → ∃ row : List AV, Q row ∧ row.length = sz ∧ ∃ cs' : List Value, cs'.length = sz ∧ RowR W row cs' ∧ ∀ j, j < sz → W.cell? ⟨bb, o + i * sz + j, none⟩ = some (cs'.getD j undef) := fun i hi => by
        obtain ⟨cs', h1, h2⟩ := hel i (by omega)
        obtain ⟨row, h3, h4⟩ := he _ _ _ _ _ _ h2
        obtain ⟨_, h5, h6⟩ := World.cells?_some h1
        rw [hsz] at h5 h6
        refine ⟨row, h4, by rw [h3.1, h5], cs', h5, h3, fun j hj => ?_⟩
        have := h6 j hj
        rw [Go.WideShapes.add_plain, Go.WideShapes.add_plain] at this
        rw [this]
        simp [List.getD, show j < cs'.length by omega]
      obtain ⟨R, hR⟩ := Go.Deep.choose_lt (p := fun i (row : List AV) => Q row ∧ row.length = sz ∧ ∃ cs' : List Value, cs'.length = sz ∧ RowR W row cs' ∧ ∀ j, j < sz → W.cell? ⟨bb, o + i * sz + j, none⟩ = some (cs'.getD j undef)) key
      obtain ⟨C, hC⟩ := Go.Deep.choose_lt (p := fun i (cs' : List Value) => cs'.length = sz ∧ RowR W (R i) cs' ∧ ∀ j, j < sz → W.cell? ⟨bb, o + i * sz + j, none⟩ = some (cs'.getD j undef)) (fun i hi => (hR i hi).2.2)
      have hget : ∀ i, i < len → ((List.range len).map R).getD i [] = R i := fun i hi => by simp [List.getD, hi]
      refine ⟨_, .one rfl (.sl sz ((List.range len).map R) (some ⟨bb, o, none⟩) len cap (fun i j => (C i).getD j undef) (by simp) hl hmx (fun h => by cases h) (fun i hi => ?_) (fun hp => ?_) (fun i j hi hj => ?_) (fun i j hi hj => ?_)), _, rfl, by
        simpa using hmx, fun q hq => ?_⟩
      · simp only [List.length_map, List.length_range] at hi
        rw [hget i hi]; exact (hR i hi).2.1
      · refine ⟨bb, o, rfl, fun i j hi hj => ?_⟩
        simp only [List.length_map, List.length_range] at hi
        exact (hC i hi).2.2 j hj
      · simp only [List.length_map, List.length_range] at hi
        have h1 := (hC i hi).2.1
        exact (h1.2 j (by rw [(hC i hi).1]; exact hj)).1
      · simp only [List.length_map, List.length_range] at hi
        have h1 := (hC i hi).2.1
        rw [hget i hi]
        exact (h1.2 j (by rw [(hC i hi).1]; exact hj)).2
      · obtain ⟨i, hi, rfl⟩ := List.mem_map.1 hq
        exact (hR i (by simpa using hi)).1
theorem opens_st2 {t t0 t1 : TypeId} {c0 c1 : Nat} {f0 f1 : Field} {Q0 Q1 : List AV → Prop} (ht : P.underlying t = some (.struct #[f0, f1])) (e0 : f0.type = t0) (e1 : f1.type = t1) (o0 : f0.offset = 0) (o1 : f1.offset = c0)
    (k0 : P.cellsOf t0 = c0) (k1 : P.cellsOf t1 = c1) (kt : P.cellsOf t = c0 + c1) (h0 : Opens enc P W t0 Q0) (h1 : Opens enc P W t1 Q1) : Opens enc P W t (fun r => ∃ r0 r1, r = r0 ++ r1 ∧ Q0 r0 ∧ Q1 r1) := fun b sp hd f cs x hx => by
  obtain ⟨xs, n, _, _, hl, hn, hf⟩ := DataW.trod_struct ht hx
  have g0 := hf 0 f0 rfl
  have g1 := hf 1 f1 rfl
  simp only [List.size_toArray, List.length_cons, List.length_nil] at hn
  rw [e0, o0, k0, List.drop_zero, List.getElem?_eq_getElem (by omega)] at g0
  rw [e1, o1, k1, List.getElem?_eq_getElem (by omega)] at g1
  obtain ⟨r0, p0, q0⟩ := h0 _ _ _ _ _ _ g0
  obtain ⟨r1, p1, q1⟩ := h1 _ _ _ _ _ _ g1
  refine ⟨r0 ++ r1, ?_, r0, r1, rfl, q0, q1⟩
  have := p0.cat p1
  rw [List.take_of_length_le (l := cs.drop c0) (by simp; omega), List.take_append_drop] at this
  exact this
theorem opens_st3 {t t0 t1 t2 : TypeId} {c0 c1 c2 : Nat} {f0 f1 f2 : Field} {Q0 Q1 Q2 : List AV → Prop} (ht : P.underlying t = some (.struct #[f0, f1, f2])) (e0 : f0.type = t0) (e1 : f1.type = t1) (e2 : f2.type = t2) (o0 : f0.offset = 0) (o1 : f1.offset = c0) (o2 : f2.offset = c0 + c1)
    (k0 : P.cellsOf t0 = c0) (k1 : P.cellsOf t1 = c1) (k2 : P.cellsOf t2 = c2) (kt : P.cellsOf t = c0 + c1 + c2) (h0 : Opens enc P W t0 Q0) (h1 : Opens enc P W t1 Q1) (h2 : Opens enc P W t2 Q2) : Opens enc P W t (fun r => ∃ r0 r1 r2, r = r0 ++ (r1 ++ r2) ∧ Q0 r0 ∧ Q1 r1 ∧ Q2 r2) := fun b sp hd f cs x hx => by
  obtain ⟨xs, n, _, _, hl, hn, hf⟩ := DataW.trod_struct ht hx
  have g0 := hf 0 f0 rfl
  have g1 := hf 1 f1 rfl
  have g2 := hf 2 f2 rfl
  simp only [List.size_toArray, List.length_cons, List.length_nil] at hn
  rw [e0, o0, k0, List.drop_zero, List.getElem?_eq_getElem (by omega)] at g0
  rw [e1, o1, k1, List.getElem?_eq_getElem (by omega)] at g1
  rw [e2, o2, k2, List.getElem?_eq_getElem (by omega)] at g2
  obtain ⟨r0, p0, q0⟩ := h0 _ _ _ _ _ _ g0
  obtain ⟨r1, p1, q1⟩ := h1 _ _ _ _ _ _ g1
  obtain ⟨r2, p2, q2⟩ := h2 _ _ _ _ _ _ g2
  refine ⟨r0 ++ (r1 ++ r2), ?_, r0, r1, r2, rfl, q0, q1, q2⟩
  have := p0.cat (p1.cat p2)
  rw [List.take_of_length_le (l := cs.drop (c0 + c1)) (by simp; omega), ← List.drop_drop, List.take_append_drop, List.take_append_drop] at this
  exact this
theorem opens_arr2 {t e : TypeId} {c : Nat} {Q : List AV → Prop} (ht : P.underlying t = some (.array 2 e)) (k : P.cellsOf e = c) (kt : P.cellsOf t = c + c) (h : Opens enc P W e Q) : Opens enc P W t (fun r => ∃ r0 r1, r = r0 ++ r1 ∧ Q r0 ∧ Q r1) := fun b sp hd f cs x hx => by
  obtain ⟨xs, n, _, _, hl, hn, hf⟩ := DataW.trod_array ht hx
  have g0 := hf 0 (by omega)
  have g1 := hf 1 (by omega)
  rw [k, Nat.zero_mul, List.drop_zero, List.getElem?_eq_getElem (by omega)] at g0
  rw [k, Nat.one_mul, List.getElem?_eq_getElem (by omega)] at g1
  obtain ⟨r0, p0, q0⟩ := h _ _ _ _ _ _ g0
  obtain ⟨r1, p1, q1⟩ := h _ _ _ _ _ _ g1
  refine ⟨r0 ++ r1, ?_, r0, r1, rfl, q0, q1⟩
  have := p0.cat p1
  rw [List.take_of_length_le (l := cs.drop c) (by simp; omega), List.take_append_drop] at this
  exact this

theorem arg_agg {base : Nat} {sp : Nat → Bool} {held : Bool} {t : TypeId} {v : Value} {d : DataW H} {p : List MemPlace} {Q : List AV → Prop} (ht : (∃ fs, P.underlying t = some (.struct fs)) ∨ ∃ n e, P.underlying t = some (.array n e))
    (hval : Value.okWide P W .any base t v) (h : DataW.Trod enc P W 0 sp held t v d p) (ho : Opens enc P W t Q) : ∃ row, Rv (G0 (allS W)) (.agg row) v ∧ Q row := by
  obtain ⟨arr, rfl, _⟩ : ∃ cs, v = .agg cs ∧ cs.size = P.cellsOf t := by
    rcases ht with ⟨fs, ht⟩ | ⟨n, e, ht⟩ <;> (simp only [Value.okWide, ht] at hval; obtain ⟨cs, h1, h2, _⟩ := hval; exact ⟨cs, h1, h2⟩)
  obtain ⟨fuel, h⟩ := h
  obtain ⟨row, h1, h2⟩ := ho _ _ _ _ _ _ h
  obtain ⟨h3, h4⟩ := h1
  simp only [Value.cells] at h3 h4
  refine ⟨row, Rv.agg' (by simpa using h3.symm) (fun x hx => ?_) (fun i hi => ?_), h2⟩
  · obtain ⟨i, hi, rfl⟩ := Array.getElem_of_mem hx
    have := (h4 i (by simpa using hi)).1
    simpa [List.getD, hi] using this
  · have := (h4 i (by omega)).2
    simpa [List.getD, Array.getD_eq_getD_getElem?] using this
theorem arg_one {sp : Nat → Bool} {held : Bool} {t : TypeId} {v : Value} {d : DataW H} {p : List MemPlace} {Q : List AV → Prop} (hv : v.cells.toList = [v])
    (h : DataW.Trod enc P W 0 sp held t v d p) (ho : Opens enc P W t Q) : ∃ a, Rv (G0 (allS W)) a v ∧ Q [a] := by
  obtain ⟨fuel, h⟩ := h
  rw [hv] at h
  obtain ⟨row, h1, h2⟩ := ho _ _ _ _ _ _ h
  obtain ⟨h3, h4⟩ := h1
  match row, h3 with
  | [a], _ => exact ⟨a, by simpa using (h4 0 (by simp)).2, h2⟩
theorem cells_int {base : Nat} {t : TypeId} {v : Value} {k : IntKind} (ht : P.underlying t = some (.int k)) (hval : Value.okWide P W .any base t v) : v.cells.toList = [v] := by
  obtain ⟨n, rfl⟩ := okWide_int ht hval
  rfl
theorem cells_slice {base : Nat} {t e : TypeId} {v : Value} (ht : P.underlying t = some (.slice e)) (hval : Value.okWide P W .any base t v) : v.cells.toList = [v] := by
  obtain ⟨a, l, c, rfl⟩ := okWide_slice ht hval
  rfl

theorem trodAll_stays (hl : laidOutB P = true) {W' : World} {sp : Nat → Bool} : ∀ {ts : List TypeId} {vs : List Value} {ds : List (DataW H)} {ps : List MemPlace}, (∀ t ∈ ts, P.readableRec t = true ∧ t < P.types.size) → DataW.TrodAll enc P W 0 (fun _ => true) true ts vs ds ps → (∀ p ∈ ps, W.sameAt W' p) → (∀ p ∈ ps, sp p.block = true) → DataW.TrodAll enc P W' 0 sp true ts vs ds ps
  | [], [], [], _, _, h, _, _ => h
  | t :: ts, v :: vs, d :: ds, ps, ht, h, hs, hp => by
    obtain ⟨p, q, h1, h2, rfl⟩ := h
    refine ⟨p, q, WideElems.Trod_stays hl (ht t (by simp)).1 (ht t (by simp)).2 h1 (fun x hx => hs x (List.mem_append_left _ hx)) (fun x hx => hp x (List.mem_append_left _ hx)), trodAll_stays hl (fun t' h' => ht t' (List.mem_cons_of_mem _ h')) h2 (fun x hx => hs x (List.mem_append_right _ hx)) (fun x hx => hp x (List.mem_append_right _ hx)), rfl⟩
  | [], [], _ :: _, _, _, h, _, _ => by simp [DataW.TrodAll] at h
  | [], _ :: _, _, _, _, h, _, _ => by simp [DataW.TrodAll] at h
  | _ :: _, [], _, _, _, h, _, _ => by simp [DataW.TrodAll] at h
  | _ :: _, _ :: _, [], _, _, h, _, _ => by simp [DataW.TrodAll] at h

def recB (P : Program) (ts : List TypeId) : Bool := ts.all fun t => P.readableRec t && decide (t < P.types.size)
theorem rec_ok {ts : List TypeId} (h : recB P ts = true) : ∀ t ∈ ts, P.readableRec t = true ∧ t < P.types.size := fun t ht => by
  have := List.all_eq_true.1 h t ht
  simpa using this

theorem law_of_pure (hg : GlobIn (allS W)) (hl : laidOutB P = true) {f : FuncId} {fn : Func} {s : ChangeSpec} {apart fresh handsOn again : Bool} {args : Array Value} {ds gs : List (DataW H)} {before : List MemPlace} {tb : TypeId}
    (hW : DataW.Whole enc P fn.params.toList s.vars apart W args.toList ds gs before) (hv : s.vars = []) (hrec : ∀ t ∈ fn.params.toList, P.readableRec t = true ∧ t < P.types.size) (hrt : fn.resultTypes = #[tb]) (htb : P.underlying tb = some .bool)
    (h1 : (s.fn H (ds ++ gs)).results = [.lit (.bool true)]) (h2 : (s.fn H (ds ++ gs)).args = ds) (h3 : (s.fn H (ds ++ gs)).vars = [])
    {avs : List AV} (hn : args.size = avs.length) (hrv : ∀ i, i < avs.length → Rv (G0 (allS W)) (avs.getD i .any) (args.getD i undef)) (hF : FnPure P f avs (.v (.bool true))) :
    Calls P f args W fun e W' => ∃ v, e = .returned v ∧ s.post enc P fn apart fresh handsOn again W args v W' := by
  refine (hF (allS W) W args (allS_ok W hg) hn hrv).mono fun e W' hl1 => ?_
  obtain ⟨v, S', rfl, hb, _, _, _, hr⟩ := hl1
  have hvv := hr.v_eq
  subst hvv
  have hW' := hW
  obtain ⟨p, q, hA, hV, hpq, hz, hnd⟩ := hW
  rw [hv] at hV
  obtain ⟨rfl, rfl⟩ := trodVars_none hV
  refine ⟨_, rfl, post_of_below (pa := p) (pv := []) hW' (fun b sp hd => ?_) (fun sp hsp => ?_) (fun sp hsp => ?_) hpq hb (ok_one hrt rfl (okWide_bool_mk htb _))⟩
  · rw [h1, hrt]; exact trodAll_mk1 (shut_bool htb _)
  · rw [h2]
    refine trodAll_stays hl hrec hA (fun x hx => hb.same ?_) (fun x hx => hsp x ?_)
    · exact hW'.lt x (by rw [hpq]; exact List.mem_append_left _ hx)
    · rw [hpq]; exact List.mem_append_left _ hx
  · rw [h3, hv]; rfl
end
end Go.Proofs.YtafikekndefjcaaDoor
