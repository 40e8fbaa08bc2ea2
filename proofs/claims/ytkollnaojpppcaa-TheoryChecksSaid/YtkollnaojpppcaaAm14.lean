/- An abstract machine for the text, part fourteen: how a walk goes on; plain lemmas over any program; no condition. -/
import Derived.Test.YtkollnaojpppcaaAm13
namespace Go.Proofs.Ytkollnaojpppcaa
open Go.RowKit

section k
variable {P : Program} {TT : TTab} {PT : PTab} {B : Base} {σ : AS} {Q : Exit → AS → Prop}
/-- What comes behind a piece. -/
def Kseq (P : Program) (B : Base) (y : Code) (Q : Exit → AS → Prop) (e : Exit) (τ : AS) : Prop := match e with
  | .normal => SP P B y τ Q
  | e => Q e τ
/-- What comes behind a block. -/
def Kblk (id : Nat) (Q : Exit → AS → Prop) (e : Exit) (τ : AS) : Prop := match e with
  | .exit i => if i = id then Q .normal τ else Q (.exit i) τ
  | e => Q e τ
/-- What comes behind a round. -/
def Klp {ι : Type} (J : ι → AS) (μ : ι → Nat) (i : ι) (Q : Exit → AS → Prop) (e : Exit) (τ : AS) : Prop := match e with
  | .normal => ∃ j, μ j < μ i ∧ Weak τ (J j)
  | e => Q e τ
theorem s_seq {x y : Code} (h : SP P B x σ (Kseq P B y Q)) : SP P B (.seq x y) σ Q := sp_seq (sp_mono h fun e τ h => by cases e <;> exact h)
theorem s_region1 (hTT : TTok P TT) (hPT : PTok P PT) {id : Nat} {ops : Array Oper} {σ' : AS} (h : runL TT PT ops ops.toList (nxt σ) σ = some σ') (k : Q .normal σ') : SP P B (.region id ops false) σ Q := sp_region hTT hPT h k
theorem s_block {id : Nat} {c : Code} (h : SP P B c σ (Kblk id Q)) : SP P B (.block id c) σ Q := sp_block (sp_mono h fun e τ h => by cases e <;> exact h)
theorem s_loop {ι : Type} {c : Code} (J : ι → AS) (μ : ι → Nat) (i0 : ι) (h0 : Weak σ (J i0)) (round : ∀ i, SP P B c (J i) (Klp J μ i Q)) (hI : B.I0 = [] := by assumption) : SP P B (.loop c) σ Q := sp_loop J μ i0 (by rw [hI]; exact h0) fun i => sp_mono (round i) fun e τ h => by rw [hI]; cases e <;> exact h
/-- A loop, where some names stay. -/
def KlpI {ι : Type} (I : List Nat) (J : ι → AS) (μ : ι → Nat) (i : ι) (Q : Exit → AS → Prop) (e : Exit) (τ : AS) : Prop := match e with
  | .normal => ∃ j, μ j < μ i ∧ WeakI I τ (J j)
  | e => Q e τ
theorem s_loopI {ι : Type} {c : Code} {I : List Nat} (hI : B.I0 = I) (J : ι → AS) (μ : ι → Nat) (i0 : ι) (h0 : WeakI I σ (J i0)) (round : ∀ i, SP P B c (J i) (KlpI I J μ i Q)) : SP P B (.loop c) σ Q := sp_loop J μ i0 (by rw [hI]; exact h0) fun i => sp_mono (round i) fun e τ h => by rw [hI]; cases e <;> exact h
theorem k_seq {y : Code} (h : SP P B y σ Q) : Kseq P B y Q .normal σ := h
theorem k_seq_ret {y : Code} (h : Q .ret σ) : Kseq P B y Q .ret σ := h
theorem k_seq_exit {y : Code} {i : Nat} (h : Q (.exit i) σ) : Kseq P B y Q (.exit i) σ := h
theorem k_blk {id : Nat} (h : Q .normal σ) : Kblk id Q .normal σ := h
theorem k_blk_ret {id : Nat} (h : Q .ret σ) : Kblk id Q .ret σ := h
theorem k_blk_exit {id : Nat} (h : Q .normal σ) : Kblk id Q (.exit id) σ := by show (if id = id then _ else _); rw [if_pos rfl]; exact h
theorem k_blk_out {id i : Nat} (hne : i ≠ id) (h : Q (.exit i) σ) : Kblk id Q (.exit i) σ := by show (if i = id then _ else _); rw [if_neg hne]; exact h
theorem k_lp_ret {ι : Type} {J : ι → AS} {μ : ι → Nat} {i : ι} (h : Q .ret σ) : Klp J μ i Q .ret σ := h
theorem k_lp_exit {ι : Type} {J : ι → AS} {μ : ι → Nat} {i : ι} {n : Nat} (h : Q (.exit n) σ) : Klp J μ i Q (.exit n) σ := h
theorem k_lp {ι : Type} {J : ι → AS} {μ : ι → Nat} {i : ι} (j : ι) (h : μ j < μ i) (hw : Weak σ (J j)) : Klp J μ i Q .normal σ := ⟨j, h, hw⟩
theorem ki_lp_ret {ι : Type} {I : List Nat} {J : ι → AS} {μ : ι → Nat} {i : ι} (h : Q .ret σ) : KlpI I J μ i Q .ret σ := h
theorem ki_lp_exit {ι : Type} {I : List Nat} {J : ι → AS} {μ : ι → Nat} {i : ι} {n : Nat} (h : Q (.exit n) σ) : KlpI I J μ i Q (.exit n) σ := h
theorem ki_lp {ι : Type} {I : List Nat} {J : ι → AS} {μ : ι → Nat} {i : ι} (j : ι) (h : μ j < μ i) (hw : WeakI I σ (J j)) : KlpI I J μ i Q .normal σ := ⟨j, h, hw⟩
end k

/-- A weakening, computed: each slot and object that is kept. -/
def weakB (σ τ : AS) (ρ : Nat → Nat) : Prop :=
  τ.n = σ.n ∧ (∀ p ∈ τ.slots, lk σ.slots p.1 = some (p.2.ren ρ) ∧ ∀ k ∈ p.2.ids, k ∈ τ.ids) ∧ (∀ p ∈ τ.objs, lk σ.objs (ρ p.1) = some ⟨p.2.t, p.2.sz, renLL ρ p.2.xs⟩ ∧ p.1 ∈ τ.ids ∧ ∀ q ∈ idsLL p.2.xs, q ∈ τ.ids) ∧ ∀ p ∈ τ.objs, ∀ q ∈ τ.objs, ρ p.1 = ρ q.1 → p.1 = q.1
theorem weakI_of {I : List Nat} {σ τ : AS} (ρ : Nat → Nat) (h : weakB σ τ ρ) (hI : ∀ k ∈ I, ρ k = k ∧ k ∈ τ.ids) : WeakI I σ τ := by
  obtain ⟨h1, h2, h3, h4⟩ := h
  exact ⟨h1, ρ, fun t av ht => h2 (t, av) (mem_lk ht), fun k ob hk => h3 (k, ob) (mem_lk hk), fun k ob k' ob' hk hk' he => h4 (k, ob) (mem_lk hk) (k', ob') (mem_lk hk') he, hI⟩
theorem weak_of {σ τ : AS} (ρ : Nat → Nat) (h : weakB σ τ ρ) : Weak σ τ := weakI_of ρ h (fun k hk => by cases hk)
/-- The same names. -/
theorem weakI_id {I : List Nat} {σ τ : AS} (h1 : τ.n = σ.n) (h2 : ∀ p ∈ τ.slots, lk σ.slots p.1 = some p.2 ∧ ∀ k ∈ p.2.ids, k ∈ τ.ids) (h3 : ∀ p ∈ τ.objs, lk σ.objs p.1 = some p.2 ∧ p.1 ∈ τ.ids ∧ ∀ q ∈ idsLL p.2.xs, q ∈ τ.ids) (hI : ∀ k ∈ I, k ∈ τ.ids) : WeakI I σ τ :=
  weakI_of (fun k => k) ⟨h1, fun p hp => by rw [AV.ren_id]; exact h2 p hp, fun p hp => by rw [renLL_id]; exact h3 p hp, fun _ _ _ _ h => h⟩ fun k hk => ⟨rfl, hI k hk⟩
theorem weak_id {σ τ : AS} (h1 : τ.n = σ.n) (h2 : ∀ p ∈ τ.slots, lk σ.slots p.1 = some p.2 ∧ ∀ k ∈ p.2.ids, k ∈ τ.ids) (h3 : ∀ p ∈ τ.objs, lk σ.objs p.1 = some p.2 ∧ p.1 ∈ τ.ids ∧ ∀ q ∈ idsLL p.2.xs, q ∈ τ.ids) : Weak σ τ := weakI_id h1 h2 h3 (fun k hk => by cases hk)
end Go.Proofs.Ytkollnaojpppcaa
