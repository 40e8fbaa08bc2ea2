/- Plain laws of what is left of a theory; no program. -/
import Derived.Test.YthdjgcjpolpgdaaGi0
import Derived.Test.YthdjgcjpolpgdaaPl2
namespace Go.Proofs.Ythdjgcjpolpgdaa
set_option linter.unusedVariables false
set_option linter.unusedSimpArgs false
set_option linter.unusedSectionVars false
open Go.RowKit
set_option maxRecDepth 100000
theorem givenT_mem {ts : List Int} {L : List (List Int)} {z : List Int} : z ∈ givenT ts L ↔ ∃ c ∈ L, openC ts c = true ∧ z = restC ts c := by
  unfold givenT
  rw [List.mem_map]
  constructor
  · rintro ⟨c, hc, rfl⟩
    obtain ⟨h1, h2⟩ := List.mem_filter.1 hc
    exact ⟨c, h1, h2, rfl⟩
  · rintro ⟨c, h1, h2, rfl⟩
    exact ⟨c, List.mem_filter.2 ⟨h1, h2⟩, rfl⟩
theorem givenT_check {N : Int} {L : List (List Int)} (hz : checkT N L = 0) (ts : List Int) : checkT N (givenT ts L) = 0 := by
  obtain ⟨h0, h1, h2, h3⟩ := checkT_ok hz
  have hl : (givenT ts L).length ≤ L.length := by
    unfold givenT; rw [List.length_map]; exact List.length_filter_le _ _
  refine checkT_of h0 h1 (by omega) fun z hzz => ?_
  obtain ⟨c, hc, _, rfl⟩ := givenT_mem.1 hzz
  have := h3 c hc
  have h5 := restC_len ts c
  exact ⟨by omega, fun l hl => this.2 l (List.mem_filter.1 hl).1⟩
structure TwP (q : Int) (v : Nat) (one two both : List Int) : Prop where
  hv : (v : Int) ≤ q
  rng : ∀ l ∈ both, ((v : Int) < l ∧ l ≤ q) ∨ ((v : Int) < -l ∧ -l ≤ q)
  mem : ∀ l, l ∈ both ↔ l ∈ one ∨ l ∈ two
  con : ∀ l ∈ both, -l ∉ both
  len1 : (one.length : Int) + 2 * v ≤ 2 * q
  len2 : (two.length : Int) + 2 * v ≤ 2 * q
  len3 : (both.length : Int) + 2 * v ≤ 2 * q
theorem TwP.zero {q : Int} (h : 0 ≤ q) : TwP q q.toNat [] [] [] := ⟨by omega, fun l h => (List.not_mem_nil h).elim, fun l => by simp, fun l h => (List.not_mem_nil h).elim, by simp; omega, by simp; omega, by simp; omega⟩
theorem TwP.skip {q : Int} {v : Nat} {one two both : List Int} (h : TwP q (v + 1) one two both) : TwP q v one two both := by
  refine ⟨by have := h.hv; omega, fun l hl => ?_, h.mem, h.con, by have := h.len1; omega, by have := h.len2; omega, by have := h.len3; omega⟩
  have := h.rng l hl
  omega
theorem TwP.snoc {q : Int} {v : Nat} {both : List Int} {l : Int} (hv : ((v + 1 : Nat) : Int) ≤ q) (hr : ∀ l ∈ both, (((v + 1 : Nat) : Int) < l ∧ l ≤ q) ∨ (((v + 1 : Nat) : Int) < -l ∧ -l ≤ q)) (hc : ∀ l ∈ both, -l ∉ both) (hl : l = ((v + 1 : Nat) : Int) ∨ l = -((v + 1 : Nat) : Int)) : (∀ x ∈ both ++ [l], ((v : Int) < x ∧ x ≤ q) ∨ ((v : Int) < -x ∧ -x ≤ q)) ∧ ∀ x ∈ both ++ [l], -x ∉ both ++ [l] := by
  constructor
  · intro x hx
    rcases List.mem_append.1 hx with hx | hx
    · have := hr x hx; omega
    · rw [List.mem_singleton.1 hx]; omega
  · intro x hx hx2
    rcases List.mem_append.1 hx with hx | hx <;> rcases List.mem_append.1 hx2 with hx2 | hx2
    · exact hc x hx hx2
    · have := hr x hx
      rw [List.mem_singleton] at hx2; omega
    · have := hr _ hx2
      rw [List.mem_singleton] at hx; omega
    · rw [List.mem_singleton] at hx hx2; omega
theorem TwP.one {q : Int} {v : Nat} {one two both : List Int} {l : Int} (h : TwP q (v + 1) one two both) (hl : l = ((v + 1 : Nat) : Int) ∨ l = -((v + 1 : Nat) : Int)) : TwP q v (one ++ [l]) two (both ++ [l]) := by
  obtain ⟨h1, h2⟩ := TwP.snoc h.hv h.rng h.con hl
  have a1 := h.len1; have a2 := h.len2; have a3 := h.len3; have a4 := h.hv
  refine ⟨by omega, h1, fun x => ?_, h2, by simp; omega, by omega, by simp; omega⟩
  simp only [List.mem_append, List.mem_singleton, h.mem]
  constructor
  · rintro ((h | h) | h) <;> simp [h]
  · rintro ((h | h) | h) <;> simp [h]
theorem TwP.two {q : Int} {v : Nat} {one two both : List Int} {l : Int} (h : TwP q (v + 1) one two both) (hl : l = ((v + 1 : Nat) : Int) ∨ l = -((v + 1 : Nat) : Int)) : TwP q v one (two ++ [l, l]) (both ++ [l]) := by
  obtain ⟨h1, h2⟩ := TwP.snoc h.hv h.rng h.con hl
  have a1 := h.len1; have a2 := h.len2; have a3 := h.len3; have a4 := h.hv
  refine ⟨by omega, h1, fun x => ?_, h2, by omega, by simp; omega, by simp; omega⟩
  simp only [List.mem_append, List.mem_singleton, List.mem_cons, List.not_mem_nil, or_false, or_self, h.mem]
  constructor
  · rintro ((h | h) | h) <;> simp [h]
  · rintro (h | h | h) <;> simp [h]
theorem term_ok {N : Int} {xs : List Int} (h1 : N ≤ 128) (hr : ∀ l ∈ xs, (0 < l ∧ l ≤ N) ∨ (0 < -l ∧ -l ≤ N)) (hc : ∀ l ∈ xs, -l ∉ xs) : termR N xs = true := by
  unfold termR
  rw [List.all_eq_true]
  intro x hx
  rw [litOk_of h1 (by have := hr x hx; omega), decide_eq_false (hc x hx)]; rfl
theorem okInts_term {N : Int} {xs : List Int} (h1 : N ≤ 128) (hl : xs.length ≤ 1000) (hr : ∀ l ∈ xs, (0 < l ∧ l ≤ N) ∨ (0 < -l ∧ -l ≤ N)) : okInts xs = true := by
  simp only [okInts, Bool.and_eq_true, List.all_eq_true, decide_eq_true_eq]
  exact ⟨fun l hl => okI_iff.2 (by have := hr l hl; exact ⟨by omega, by omega⟩), by omega⟩
theorem TwP.terms {q : Int} {one two both : List Int} (h : TwP q 0 one two both) (h1 : q ≤ 128) : (termR q one = true ∧ termR q two = true ∧ termR q both = true) ∧ okInts one = true ∧ okInts two = true ∧ okInts both = true := by
  have r3 : ∀ l ∈ both, (0 < l ∧ l ≤ q) ∨ (0 < -l ∧ -l ≤ q) := fun l hl => by have := h.rng l hl; omega
  have r1 : ∀ l ∈ one, (0 < l ∧ l ≤ q) ∨ (0 < -l ∧ -l ≤ q) := fun l hl => r3 l ((h.mem l).2 (.inl hl))
  have r2 : ∀ l ∈ two, (0 < l ∧ l ≤ q) ∨ (0 < -l ∧ -l ≤ q) := fun l hl => r3 l ((h.mem l).2 (.inr hl))
  have a1 := h.len1; have a2 := h.len2; have a3 := h.len3; have a4 := h.hv
  refine ⟨⟨term_ok h1 r1 fun l hl hl2 => h.con l ((h.mem l).2 (.inl hl)) ((h.mem _).2 (.inl hl2)), term_ok h1 r2 fun l hl hl2 => h.con l ((h.mem l).2 (.inr hl)) ((h.mem _).2 (.inr hl2)), term_ok h1 r3 h.con⟩, okInts_term h1 (by omega) r1, okInts_term h1 (by omega) r2, okInts_term h1 (by omega) r3⟩
theorem givenT_both {one two both : List Int} (mem : ∀ l, l ∈ both ↔ l ∈ one ∨ l ∈ two) (con : ∀ l ∈ both, -l ∉ both) (L : List (List Int)) : givenT two (givenT one L) = givenT both L := by
  have h1 : ∀ c, (openC one c && openC two (restC one c)) = openC both c := fun c => by
    unfold openC restC
    rw [Bool.eq_iff_iff]
    simp only [Bool.and_eq_true, Bool.not_eq_true', List.any_eq_false, decide_eq_true_eq, List.mem_filter]
    constructor
    · rintro ⟨k1, k2⟩ l hl hb
      rcases (mem l).1 hb with h | h
      · exact k1 l hl h
      · refine k2 l ⟨hl, ?_⟩ h
        exact decide_eq_false fun hn => con l hb ((mem _).2 (.inl hn))
    · intro k
      exact ⟨fun l hl h => k l hl ((mem l).2 (.inl h)), fun l hl h => k l hl.1 ((mem l).2 (.inr h))⟩
  have h2 : ∀ c, restC two (restC one c) = restC both c := fun c => by
    unfold restC
    rw [List.filter_filter]
    congr 1
    funext l
    rw [Bool.eq_iff_iff]
    simp only [Bool.and_eq_true, Bool.not_eq_true', decide_eq_false_iff_not, mem]
    constructor
    · rintro ⟨k1, k2⟩ (h | h)
      · exact k2 h
      · exact k1 h
    · intro k
      exact ⟨fun h => k (.inr h), fun h => k (.inl h)⟩
  unfold givenT
  induction L with
  | nil => rfl
  | cons c L ih =>
    have hc := h1 c
    cases ho : openC one c
    · rw [ho, Bool.false_and] at hc
      rw [List.filter_cons, List.filter_cons, ho, ← hc]
      simpa using ih
    · rw [ho, Bool.true_and] at hc
      rw [List.filter_cons (p := openC one), List.filter_cons (p := openC both), ho, ← hc]
      simp only [if_true, List.map_cons]
      rw [List.filter_cons]
      cases ho2 : openC two (restC one c)
      · simpa using ih
      · simp only [if_true, List.map_cons, h2]
        rw [ih]
end Go.Proofs.Ythdjgcjpolpgdaa
