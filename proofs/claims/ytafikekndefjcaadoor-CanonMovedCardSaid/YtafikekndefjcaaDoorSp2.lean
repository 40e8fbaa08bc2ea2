/- Plain laws for CanonMoved: variables replaced in the same order, clauses turned; no program. -/
import Derived.Test.YtafikekndefjcaaDoorSp
namespace Go.Proofs.YtafikekndefjcaaDoor
set_option linter.unusedVariables false
set_option linter.unusedSimpArgs false
set_option linter.unusedSectionVars false
open Go.RowKit
set_option maxRecDepth 100000
section
variable {V : Int → Bool} {p : Int → Int} {n : Int} (h : Ren V p n)
include h
theorem Ren.names {M : List (List Int)} (hV : ∀ c ∈ M, GoodR V c) : smallN (M.map fun c => c.map (renl p)) = (smallN M).map p := by
  have hm : ∀ v, v ∈ smallN M ↔ ∃ c ∈ M, ∃ l ∈ c, litVar l = v := fun v => by
    unfold smallN
    rw [listS_mem, sHas_varsT]
    refine ⟨fun hh => hh.2, fun hh => ⟨?_, hh⟩⟩
    obtain ⟨c, hc, l, hl, rfl⟩ := hh
    exact h.pos _ (hV c hc l hl)
  have hin : ∀ v ∈ smallN M, V v = true := fun v hv => by
    obtain ⟨c, hc, l, hl, rfl⟩ := (hm v).1 hv
    exact hV c hc l hl
  have hle := h.le
  refine strict_unique (lt := (· < · : Int → Int → Prop)) (fun a b h => by omega) (listS_sorted _) (List.pairwise_map.2 (List.Pairwise.imp_of_mem (fun ha hb hab => h.mono _ _ (hin _ ha) (hin _ hb) hab) (listS_sorted (varsT M)))) fun z => ?_
  rw [List.mem_map]
  unfold smallN at hm ⊢
  rw [listS_mem, sHas_varsT]
  constructor
  · rintro ⟨_, d, hd, l, hl, e⟩
    obtain ⟨c, hc, rfl⟩ := List.mem_map.1 hd
    obtain ⟨x, hx, rfl⟩ := List.mem_map.1 hl
    exact ⟨litVar x, (hm _).2 ⟨c, hc, x, hx, rfl⟩, by rw [← (h.lit (hV c hc x hx)).1]; exact e⟩
  · rintro ⟨v, hv, rfl⟩
    obtain ⟨c, hc, x, hx, rfl⟩ := (hm v).1 hv
    have := h.rng _ (hV c hc x hx)
    exact ⟨by omega, _, List.mem_map.2 ⟨c, hc, rfl⟩, _, List.mem_map.2 ⟨x, hx, rfl⟩, (h.lit (hV c hc x hx)).1⟩
theorem Ren.small {M : List (List Int)} (hV : ∀ c ∈ M, GoodR V c) : smallL (M.map fun c => c.map (renl p)) = smallL M := by
  have hnm := h.names hV
  have hN := names_listS (varsT M)
  have hN2 := names_listS (varsT (M.map fun c => c.map (renl p)))
  unfold smallL
  rw [List.map_map]
  apply List.map_congr_left
  intro c hc
  unfold smallR
  rw [Function.comp, List.map_map]
  apply List.map_congr_left
  intro l hl
  have hg := hV c hc l hl
  obtain ⟨g1, g2, g3, g4⟩ := h.lit hg
  have hv : litVar l ∈ smallN M := by
    unfold smallN
    rw [listS_mem, sHas_varsT]
    exact ⟨h.pos _ hg, c, hc, l, hl, rfl⟩
  obtain ⟨i, hi, e⟩ := mem_getD hv
  have e1 := numOf_get hN hi
  have hi2 : i < (smallN (M.map fun c => c.map (renl p))).length := by rw [hnm, List.length_map]; exact hi
  have e2 := numOf_get hN2 hi2
  have e3 : (smallN (M.map fun c => c.map (renl p))).getD i 0 = p (litVar l) := by
    rw [hnm, ← e]; simp [List.getD, hi]
  unfold smallN at e e3
  rw [e] at e1
  rw [e3] at e2
  show renl _ (renl p l) = renl _ l
  unfold smallN
  have re : ∀ (q : Int → Int) (x : Int), renl q x = if x < 0 then -(q (litVar x)) else q (litVar x) := fun _ _ => rfl
  generalize renl p l = y at g1 g2 ⊢
  rw [re _ y, re _ l, g1, e2, e1]
  by_cases hn : l < 0
  · rw [if_pos (g2.2 hn), if_pos hn]
  · rw [if_neg fun hh => hn (g2.1 hh), if_neg hn]
end
def toN (gaps : List Int) : Nat → Int
  | 0 => 0
  | v + 1 => toN gaps v + 1 + if v < gaps.length then (gaps.getD v 0) % 9 else 0
theorem toN_lt (gaps : List Int) (v : Nat) : toN gaps v < toN gaps (v + 1) ∧ toN gaps (v + 1) ≤ toN gaps v + 9 := by
  have h1 := Int.emod_nonneg (gaps.getD v 0) (by omega : (9 : Int) ≠ 0)
  have h2 := Int.emod_lt_of_pos (gaps.getD v 0) (by omega : (0 : Int) < 9)
  rw [toN]
  split <;> omega
theorem toN_mono (gaps : List Int) : ∀ (d v : Nat), toN gaps v < toN gaps (v + d + 1)
  | 0, v => (toN_lt gaps v).1
  | d + 1, v => Int.lt_trans (toN_mono gaps d v) (toN_lt gaps (v + d + 1)).1
theorem toN_le (gaps : List Int) : ∀ v : Nat, 0 ≤ toN gaps v ∧ toN gaps v ≤ 9 * v
  | 0 => by simp [toN]
  | v + 1 => by have := toN_lt gaps v; have := toN_le gaps v; omega
theorem ren_to (gaps : List Int) {N : Int} (hN : N ≤ 12) : Ren (fun v => decide (1 ≤ v ∧ v ≤ N)) (fun v => toN gaps v.toNat) 128 := by
  refine ⟨fun v hv => ?_, fun v hv => ?_, fun v u hv hu hvu => ?_, by omega⟩
  · simp only [decide_eq_true_eq] at hv; omega
  · simp only [decide_eq_true_eq] at hv
    have h1 := toN_le gaps v.toNat
    have h2 := toN_mono gaps (v.toNat - 1) 0
    rw [show 0 + (v.toNat - 1) + 1 = v.toNat by omega, show toN gaps 0 = 0 from rfl] at h2
    omega
  · simp only [decide_eq_true_eq] at hv hu
    have := toN_mono gaps (u.toNat - v.toNat - 1) v.toNat
    rw [show v.toNat + (u.toNat - v.toNat - 1) + 1 = u.toNat by omega] at this
    exact this
theorem good_to {N : Int} {L : List (List Int)} (hz : checkT N L = 0) : ∀ c ∈ L, GoodR (fun v => decide (1 ≤ v ∧ v ≤ N)) c := fun c hc l hl => by
  obtain ⟨_, _, _, h3⟩ := checkT_ok hz
  have := litVar_abs ((h3 c hc).2 l hl)
  simp only [decide_eq_true_eq]; omega
def movK (gaps : List Int) (L : List (List Int)) (turn k : Nat) : List (List Int) := (List.range k).map fun i => (L.getD ((i + turn) % L.length) []).map (renl fun v => toN gaps v.toNat)
theorem turn_all2 {m turn i : Nat} (hi : i < m) : ∃ j, j < m ∧ (j + turn) % m = i := by
  refine ⟨(i + (m - turn % m)) % m, Nat.mod_lt _ (by omega), ?_⟩
  have h1 := Nat.mod_lt turn (by omega : 0 < m)
  rw [Nat.mod_add_mod]
  have h2 := Nat.div_add_mod turn m
  have e : i + (m - turn % m) + turn = i + m * (turn / m + 1) := by rw [Nat.mul_add]; omega
  rw [e, Nat.add_mul_mod_self_left, Nat.mod_eq_of_lt hi]
theorem getD_memL2 {L : List (List Int)} {k : Nat} (h : k < L.length) : L.getD k [] ∈ L := by
  have : L.getD k [] = L[k] := by simp [List.getD, h]
  rw [this]; exact List.getElem_mem _
theorem mov_mem (gaps : List Int) (L : List (List Int)) (turn : Nat) (z : List Int) : z ∈ movK gaps L turn L.length ↔ z ∈ L.map fun c => c.map (renl fun v => toN gaps v.toNat) := by
  unfold movK
  rw [List.mem_map, List.mem_map]
  constructor
  · rintro ⟨i, hi, rfl⟩
    rw [List.mem_range] at hi
    exact ⟨_, getD_memL2 (Nat.mod_lt _ (by omega)), rfl⟩
  · rintro ⟨c, hc, rfl⟩
    obtain ⟨i, hi, rfl⟩ := List.getElem_of_mem hc
    obtain ⟨j, hj, e⟩ := turn_all2 (turn := turn) hi
    refine ⟨j, List.mem_range.2 hj, ?_⟩
    rw [e]; simp [List.getD, hi]
theorem mov_law (gaps : List Int) {N : Int} {L : List (List Int)} (turn : Nat) (hN : N ≤ 12) (hz : checkT N L = 0) :
    checkT 128 (movK gaps L turn L.length) = 0 ∧ smallL (normL (movK gaps L turn L.length)) = smallL (normL L) ∧ smallN (normL (movK gaps L turn L.length)) = (smallN (normL L)).map fun v => toN gaps v.toNat := by
  have hR := ren_to gaps hN
  have hg := good_to hz
  have hz2 := hR.check hz (by omega) hg
  obtain ⟨h0, h1, h2, h3⟩ := checkT_ok hz2
  have hz3 : checkT 128 (movK gaps L turn L.length) = 0 := by
    refine checkT_of h0 h1 (by unfold movK; simpa using h2) fun z hzz => h3 z ((mov_mem gaps L turn z).1 hzz)
  have hn : normL (movK gaps L turn L.length) = (normL L).map fun c => c.map (renl fun v => toN gaps v.toNat) := by
    rw [← hR.norm hz (by omega) hg]
    exact normL_congr hz3 hz2 (fun c hc => ⟨c, (mov_mem gaps L turn c).1 hc, fun y => Iff.rfl⟩) (fun c hc => ⟨c, (mov_mem gaps L turn c).2 hc, fun y => Iff.rfl⟩)
  have hg2 := good_to (normL_check hz)
  refine ⟨hz3, ?_, ?_⟩
  · rw [hn]; exact hR.small hg2
  · rw [hn]; exact hR.names hg2
end Go.Proofs.YtafikekndefjcaaDoor
