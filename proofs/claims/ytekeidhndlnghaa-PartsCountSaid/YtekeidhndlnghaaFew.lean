/- Contract of the chapter's few; no condition. -/
import Derived.Test.YtekeidhndlnghaaSame
namespace Go.Proofs.Ytekeidhndlnghaa
set_option linter.unusedVariables false
set_option linter.unusedSimpArgs false
set_option linter.unusedSectionVars false
open Go.RowKit

def lens (L : List (List Int)) : Nat := (L.map List.length).sum
theorem lens_snoc (L : List (List Int)) (c : List Int) : lens (L ++ [c]) = lens L + c.length := by simp [lens]
def fewT (L : List (List Int)) (ts : List Int) : Bool := decide (L.length ≤ 100) && decide (lens L ≤ 600) && decide (ts.length ≤ 100)

set_option maxHeartbeats 1000000 in
set_option maxRecDepth 100000 in
theorem few_c {F G : Foot} {w : World} {v u : Value} {L : List (List Int)} {ts : List Int} (N : Int) (h : IntRows F w v L) (ht : Ints G w u ts) :
    Calls Try.prog 10 #[.agg #[.int .i64 N, v], u] w (Gives w (.bool (fewT L ts))) := by
  obtain ⟨a, n, c, rfl, HE, _, hm⟩ := h.open
  obtain ⟨a1, n1, c1, rfl, hn1, _, hm1, _⟩ := ht.open
  unfold LenMax at hm1
  have HN1 := Lib.hid hn1
  have HR := Lib.hid h
  clear h ht hn1
  have hA := Two.new w 24 (.int .i64 N) (.slice a n c)
  by_cases hn : n ≤ 100
  · go_enter Try.func10, Try.ntmps10
    go_wp2
    go_loopw [5, 6] (fun s i wr => ∃ k : Nat, k ≤ n ∧ i = .int .i64 k ∧ Hid (lens (L.take k) ≤ k * 17592186044416) ∧ s = .int .i64 (lens (L.take k) : Nat) ∧ Two wr w.heap.size 24 (.int .i64 N) (.slice a n c) ∧ Below w.heap.size w wr) (fun _ i _ => n - (intOf i).toNat)
    case atStart => exact ⟨0, Nat.zero_le _, rfl, by simp [Hid, lens], by simp [lens], hA, below1 _ _⟩
    case round =>
      clear hA
      obtain ⟨k, hk, rfl, HS0, rfl, hA, hb⟩ := hrel
      have t1 := hA.c1
      by_cases hlt : k < n
      · have hI : IntRows F wr (.slice a n c) L := Enc.below _ HR.out hb
        obtain ⟨b5, o5, a5, n5, c5, rfl, hcell, hrow, hn5, hm5⟩ := hI.at k hlt
        have HS := Lib.hid (show lens (L.take (k + 1)) = lens (L.take k) + n5 by rw [take_succ_getD L k (by have := HE.out; omega) [], lens_snoc, hn5.out])
        have hs1 := HS0.out
        clear hI hrow hn5 HS0
        generalize lens (L.take k) = s at *
        have hw1 : -9223372036854775808 ≤ (s : Int) + n5 := by omega
        have hw2 : (s : Int) + n5 ≤ 9223372036854775807 := by have : k * 17592186044416 ≤ 100 * 17592186044416 := Nat.mul_le_mul_right _ (by omega); omega
        go_wp2
        go_roundw
        case rel => exact ⟨k + 1, by omega, by go_num, by unfold Hid; rw [HS.out]; omega, by rw [HS.out]; go_num, hA, hb⟩
        case measure => simp [intOf]; omega
      · obtain rfl : k = n := by omega
        rw [List.take_of_length_le (by have := HE.out; omega)]
        clear HS0
        have hf : Hid (fewT L ts = (decide (lens L ≤ 600) && decide (n1 ≤ 100))) := by
          unfold Hid fewT
          rw [← HE.out, decide_eq_true hn, ← HN1.out]; rfl
        generalize lens L = s at *
        have e0 : (k : Int) ≤ 100 := by omega
        by_cases h6 : s ≤ 600
        · have e1 : (s : Int) ≤ 600 := by omega
          by_cases h7 : n1 ≤ 100
          · have e2 : (n1 : Int) ≤ 100 := by omega
            go_wp2
            go_ret
            exact ⟨by rw [hf.out, decide_eq_true h6, decide_eq_true h7]; rfl, hb⟩
          · have e2 : ¬ (n1 : Int) ≤ 100 := by omega
            go_wp2
            go_ret
            exact ⟨by rw [hf.out, decide_eq_true h6, decide_eq_false h7]; rfl, hb⟩
        · have e1 : ¬ (s : Int) ≤ 600 := by omega
          go_wp2
          go_ret
          exact ⟨by rw [hf.out, decide_eq_false h6]; rfl, hb⟩
  · have hf : Hid (fewT L ts = false) := by
      unfold Hid fewT
      rw [← HE.out, decide_eq_false hn]; rfl
    go_enter Try.func10, Try.ntmps10
    go_wp2
    go_loopw [5, 6] (fun s i wr => ∃ (k : Nat) (z : Int), k ≤ n ∧ i = .int .i64 k ∧ s = .int .i64 z ∧ Two wr w.heap.size 24 (.int .i64 N) (.slice a n c) ∧ Below w.heap.size w wr) (fun _ i _ => n - (intOf i).toNat)
    case atStart => exact ⟨0, 0, Nat.zero_le _, rfl, rfl, hA, below1 _ _⟩
    case round =>
      clear hA
      obtain ⟨k, z, hk, rfl, rfl, hA, hb⟩ := hrel
      have t1 := hA.c1
      by_cases hlt : k < n
      · have hI : IntRows F wr (.slice a n c) L := Enc.below _ HR.out hb
        obtain ⟨b5, o5, a5, n5, c5, rfl, hcell, hrow, hn5, hm5⟩ := hI.at k hlt
        clear hI hrow hn5
        go_wp2
        go_roundw
        case rel => exact ⟨k + 1, _, by omega, by go_num, rfl, hA, hb⟩
        case measure => simp [intOf]; omega
      · obtain rfl : k = n := by omega
        have e0 : ¬ (k : Int) ≤ 100 := by omega
        go_wp2
        go_ret
        exact ⟨by rw [hf.out]; rfl, hb⟩
end Go.Proofs.Ytekeidhndlnghaa
