/- Contracts of censusref16: valid, grow; no condition. -/
import Derived.Test.YtekeidhndlnghaaRef16
namespace Go.Proofs.Ytekeidhndlnghaa
set_option linter.unusedVariables false
set_option linter.unusedSimpArgs false
set_option linter.unusedSectionVars false
open Go.RowKit

def validT (N : Int) (L : List (List Int)) (ts : List Int) : Bool := decide (checkT N L = 0) && (ts.all (fun y => litOk y N)) && !opposed ts

set_option maxHeartbeats 800000 in
theorem ref16valid_c {F G : Foot} {w : World} {v u : Value} {L : List (List Int)} {ts : List Int} (N : Int) (hN : I64 N) (h : IntRows F w v L) (ht : Ints G w u ts) :
    Calls Try.prog 34 #[.agg #[.int .i64 N, v], u] w (Gives w (.bool (validT N L ts))) := by
  have hp := ref05Check_c (w := w.alloc (.cells #[.int .i64 N, v] 24)) N hN (Enc.below _ h (below1 _ _))
  have HT := Lib.hid ht
  unfold I64 at hN
  obtain ⟨hN1, hN2⟩ := hN
  unfold validT Gives at *
  have hv : ∃ a n c, v = .slice a n c := by obtain ⟨a, n, c, e, _⟩ := h.open; exact ⟨a, n, c, e⟩
  obtain ⟨a, n, c, rfl⟩ := hv
  clear h ht
  by_cases h0 : checkT N L = 0
  · rw [h0] at hp
    rw [h0]
    have HP := Lib.hid hp
    clear hp h0
    cases h1 : (ts.all (fun y => litOk y N))
    · have H1 := Lib.hid h1
      clear h1
      go_enter Try.func34, Try.ntmps34
      go_wp2_with fail
      refine HP.out.mono ?_
      rintro e w1 ⟨rfl, hb1⟩
      have hv1 := (Two.new w 24 (.int .i64 N) (.slice a n c)).below hb1 (by simp)
      have g0 := hv1.c0
      have hq := ref04All1_c N (Enc.below _ HT.out ((below1 _ _).trans (hb1.mono (by simp))))
      rw [H1.out] at hq
      have HQ := Lib.hid hq
      clear hq
      go_wp2_with fail
      refine HQ.out.mono ?_
      rintro e w2 ⟨rfl, rfl⟩
      go_wp2
      go_ret
      exact ⟨rfl, (below1 _ _).trans (hb1.mono (by simp))⟩
    · have H1 := Lib.hid h1
      clear h1
      go_enter Try.func34, Try.ntmps34
      go_wp2_with fail
      refine HP.out.mono ?_
      rintro e w1 ⟨rfl, hb1⟩
      have hv1 := (Two.new w 24 (.int .i64 N) (.slice a n c)).below hb1 (by simp)
      have g0 := hv1.c0
      have hT1 := Enc.below _ HT.out ((below1 _ (.cells #[.int .i64 N, .slice a n c] 24)).trans (hb1.mono (by simp)))
      have hq := ref04All1_c N hT1
      have hr := ref04Opposite_c hT1
      rw [H1.out] at hq
      have HQ := Lib.hid hq
      have HR := Lib.hid hr
      clear hq hr hT1
      go_wp2_with fail
      refine HQ.out.mono ?_
      rintro e w2 ⟨rfl, rfl⟩
      go_wp2_with fail
      refine HR.out.mono ?_
      rintro e w2 ⟨rfl, rfl⟩
      go_wp2
      go_ret
      exact ⟨by simp, (below1 _ _).trans (hb1.mono (by simp))⟩
  · have hne : (checkT N L == 0) = false := by simp [h0]
    rw [decide_eq_false h0]
    generalize checkT N L = t at *
    have HP := Lib.hid hp
    clear hp h0
    go_enter Try.func34, Try.ntmps34
    go_wp2_with fail
    refine HP.out.mono ?_
    rintro e w1 ⟨rfl, hb1⟩
    go_wp2
    go_ret
    exact ⟨rfl, (below1 _ _).trans (hb1.mono (by simp))⟩

def growStep (ts : List Int) (s : BitVec 128) (c : List Int) : BitVec 128 := if leftL c ts && meetB (litVars (restL c ts)) s then s ||| litVars (restL c ts) else s
def growRound (L : List (List Int)) (ts : List Int) (s : BitVec 128) : BitVec 128 := L.foldl (growStep ts) s
def growIter (L : List (List Int)) (ts : List Int) (s : BitVec 128) : Nat → BitVec 128
  | 0 => s
  | k + 1 => growRound L ts (growIter L ts s k)
def growSet (L : List (List Int)) (ts : List Int) (s : BitVec 128) : BitVec 128 := growIter L ts s 129
def growIdx (L : List (List Int)) (ts : List Int) (f : Nat) (S : BitVec 128) : List Int :=
  ((List.range L.length).filter fun i => leftL (L.getD i []) ts && (decide (i = f) || meetB (litVars (restL (L.getD i []) ts)) S)).map fun i : Nat => (i : Int)

def card (s : BitVec 128) : Nat := ((List.range 128).filter fun k => s.getLsbD k).length
theorem card_le (s : BitVec 128) : card s ≤ 128 := Nat.le_trans (List.length_filter_le _ _) (by simp)
def subset (s t : BitVec 128) : Prop := ∀ k, s.getLsbD k = true → t.getLsbD k = true
theorem subset_refl (s : BitVec 128) : subset s s := fun _ h => h
theorem subset_trans {a b c : BitVec 128} (h : subset a b) (k : subset b c) : subset a c := fun i hi => k i (h i hi)
theorem subset_or (s t : BitVec 128) : subset s (s ||| t) := fun k h => by simp [BitVec.getLsbD_or, h]
theorem card_lt {s t : BitVec 128} (h : subset s t) (hne : s ≠ t) : card s < card t := by
  obtain ⟨k, hk, hk2⟩ : ∃ k, k < 128 ∧ (t.getLsbD k = true ∧ s.getLsbD k = false) := by
    apply Classical.byContradiction
    intro hno
    apply hne
    apply BitVec.eq_of_getLsbD_eq
    intro k hk
    cases hs : s.getLsbD k
    · cases ht : t.getLsbD k
      · rfl
      · exact absurd ⟨k, hk, ht, hs⟩ hno
    · exact (h k hs).symm
  unfold card
  have hsub : ((List.range 128).filter fun k => s.getLsbD k) = (((List.range 128).filter fun k => t.getLsbD k).filter fun k => s.getLsbD k) := by
    rw [List.filter_filter]
    apply List.filter_congr
    intro j _
    cases hs : s.getLsbD j
    · simp
    · simp [h j hs]
  rw [hsub]
  apply List.length_filter_lt_length_iff_exists.2
  exact ⟨k, List.mem_filter.2 ⟨List.mem_range.2 hk, hk2.1⟩, by simp [hk2.2]⟩

theorem growStep_sub (ts : List Int) (s : BitVec 128) (c : List Int) : subset s (growStep ts s c) := by
  unfold growStep; split
  · exact subset_or _ _
  · exact subset_refl _
theorem growRound_sub (ts : List Int) : ∀ (L : List (List Int)) (s : BitVec 128), subset s (growRound L ts s)
  | [], s => subset_refl s
  | c :: r, s => subset_trans (growStep_sub ts s c) (growRound_sub ts r _)
theorem growRound_snoc (L : List (List Int)) (c : List Int) (ts : List Int) (s : BitVec 128) : growRound (L ++ [c]) ts s = growStep ts (growRound L ts s) c := by
  unfold growRound; rw [List.foldl_append]; rfl
theorem growIter_fix {L : List (List Int)} {ts : List Int} {s : BitVec 128} {k : Nat} (h : growRound L ts (growIter L ts s k) = growIter L ts s k) : ∀ j, growIter L ts s (k + j) = growIter L ts s k
  | 0 => rfl
  | j + 1 => by rw [← Nat.add_assoc, growIter, growIter_fix h j, h]
end Go.Proofs.Ytekeidhndlnghaa
