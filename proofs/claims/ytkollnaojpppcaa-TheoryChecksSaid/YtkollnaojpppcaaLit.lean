/- Contracts of lit.Var, lit.Valid, lit.compare, slices.Index, slices.Contains, theory.Check; no condition. -/
import Derived.Test.YtkollnaojpppcaaRef05b
namespace Go.Proofs.Ytkollnaojpppcaa
open Go.RowKit

set_option maxHeartbeats 400000 in
theorem litVar_c (l : Int) (w : World) (hl : I64 l) :
    Calls Try.prog 41 #[.int .i64 l] w fun e w' => e = .returned (.int .i64 (litVar l)) ∧ w = w' := by
  unfold I64 at hl
  obtain ⟨hl1, hl2⟩ := hl
  rcases (by omega : (1 ≤ l ∧ l ≤ 128) ∨ (-128 ≤ l ∧ l ≤ -1) ∨ l < -128 ∨ l = 0 ∨ 128 < l) with ⟨h1, h2⟩ | ⟨h1, h2⟩ | h1 | h1 | h1
  · rw [litVar_pos h1 h2]
    go_enter Try.func41, Try.ntmps41
    go_wp2
    go_ret
    exact ⟨rfl, rfl⟩
  · rw [litVar_neg h1 h2]
    have h3 : l < 1 := by omega
    go_enter Try.func41, Try.ntmps41
    go_wp2
    go_ret
    exact ⟨rfl, rfl⟩
  · rw [litVar_no (.inl h1)]
    have h3 : l < 1 := by omega
    go_enter Try.func41, Try.ntmps41
    go_wp2
    go_ret
    exact ⟨rfl, rfl⟩
  · subst h1
    go_enter Try.func41, Try.ntmps41
    go_wp2
    go_ret
    exact ⟨rfl, rfl⟩
  · rw [litVar_no (.inr (.inr h1))]
    have h3 : 1 ≤ l := by omega
    go_enter Try.func41, Try.ntmps41
    go_wp2
    go_ret
    exact ⟨rfl, rfl⟩

set_option maxHeartbeats 400000 in
theorem litValid_c (l n : Int) (w : World) (hl : I64 l) :
    Calls Try.prog 36 #[.int .i64 l, .int .i64 n] w fun e w' => e = .returned (.bool (litOk l n)) ∧ w = w' := by
  have hp := fun w => litVar_c l w hl
  have hr := litVar_range l
  unfold litOk
  clear hl
  generalize litVar l = x at *
  obtain ⟨hr1, hr2⟩ := hr
  by_cases h1 : x = 0
  · subst h1
    go_enter Try.func36, Try.ntmps36
    go_wp2_with (go_at_call 41; refine (hp _).mono ?_; rintro e w' ⟨rfl, rfl⟩)
    go_ret
    exact ⟨rfl, rfl⟩
  · have h2 : (x != 0) = true := by simp [h1]
    go_enter Try.func36, Try.ntmps36
    go_wp2_with (go_at_call 41; refine (hp _).mono ?_; rintro e w' ⟨rfl, rfl⟩)
    go_ret
    exact ⟨by simp; omega, rfl⟩

/-- The order of literals. -/
def cmpLit (a b : Int) : Int := if litVar a = litVar b then a - b else litVar a - litVar b
set_option maxHeartbeats 400000 in
theorem litCompare_c (a b : Int) (w : World) (ha : -128 ≤ a) (ha' : a ≤ 128) (hb : -128 ≤ b) (hb' : b ≤ 128) :
    Calls Try.prog 78 #[.int .i64 a, .int .i64 b] w fun e w' => e = .returned (.int .i64 (cmpLit a b)) ∧ w = w' := by
  have hp := fun w => litVar_c a w ⟨by omega, by omega⟩
  have hq := fun w => litVar_c b w ⟨by omega, by omega⟩
  have hr := litVar_range a
  have hs := litVar_range b
  unfold cmpLit
  generalize litVar a = x at *
  generalize litVar b = y at *
  obtain ⟨hr1, hr2⟩ := hr
  obtain ⟨hs1, hs2⟩ := hs
  by_cases h : x = y
  · rw [if_pos h]
    subst h
    go_enter Try.func78, Try.ntmps78
    go_wp2_with fail
    refine (hp _).mono ?_
    rintro e w' ⟨rfl, rfl⟩
    go_wp2_with fail
    refine (hq _).mono ?_
    rintro e w' ⟨rfl, rfl⟩
    go_wp2
    go_ret
    exact ⟨rfl, rfl⟩
  · rw [if_neg h]
    have h2 : (x != y) = true := by simp [h]
    go_enter Try.func78, Try.ntmps78
    go_wp2_with fail
    refine (hp _).mono ?_
    rintro e w' ⟨rfl, rfl⟩
    go_wp2_with fail
    refine (hq _).mono ?_
    rintro e w' ⟨rfl, rfl⟩
    go_wp2
    go_ret
    exact ⟨rfl, rfl⟩


set_option maxHeartbeats 800000 in
theorem theoryCheck_c {F : Foot} {w : World} {v : Value} {L : List (List Int)} (N : Int) (hN : I64 N) (h : IntRows F w v L) :
    Calls Try.prog 17 #[.agg #[.int .i64 N, v]] w (Gives w (.int .i64 (checkT N L))) := by
  obtain ⟨a, n, c, rfl, HE, _, hm⟩ := h.open
  unfold I64 at hN
  obtain ⟨hN1, hN2⟩ := hN
  have HR := Lib.hid h
  clear h
  unfold checkT
  rcases (by omega : N < 0 ∨ 128 < N ∨ (0 ≤ N ∧ N ≤ 128)) with h | h | ⟨h0, h1⟩
  · rw [if_pos (.inl h)]
    go_enter Try.func17, Try.ntmps17
    go_wp2
    go_ret
    exact ⟨rfl, below1 _ _⟩
  · rw [if_pos (.inr h)]
    have h' : 0 ≤ N := by omega
    go_enter Try.func17, Try.ntmps17
    go_wp2
    go_ret
    exact ⟨rfl, below1 _ _⟩
  rw [if_neg (by omega)]
  by_cases h2 : 4096 < n
  · rw [if_pos (by rw [← HE.out]; exact h2)]
    go_enter Try.func17, Try.ntmps17
    go_wp2
    go_ret
    exact ⟨rfl, below1 _ _⟩
  rw [if_neg (by rw [← HE.out]; exact h2)]
  have hp := fun l w hl => litValid_c l N w hl
  have HP := Lib.hid hp
  clear hp
  go_enter Try.func17, Try.ntmps17
  go_wp2
  go_loopw [22] (fun i wr => ∃ k : Nat, k ≤ n ∧ i = .int .i64 k ∧ Hid (∀ j, j < k → checkRow N (L.getD j []) = 0) ∧ Two wr w.heap.size 24 (.int .i64 N) (.slice a n c) ∧ Below w.heap.size w wr) (fun i _ => n - (intOf i).toNat)
  case atStart => exact ⟨0, Nat.zero_le _, rfl, by intro j hj; omega, Two.new _ _ _ _, below1 _ _⟩
  case round =>
    obtain ⟨k, hk, rfl, hno, hv, hb⟩ := hrel
    obtain ⟨wo, rfl⟩ : ∃ wo : World, wo = wr := ⟨_, rfl⟩
    have g0 := hv.c0
    have g1 := hv.c1
    by_cases hlt : k < n
    · have hI : IntRows F wo (.slice a n c) L := Enc.below _ HR.out hb
      obtain ⟨b, o, a2, n2, c2, rfl, hcell, hrow, HE2, hm2⟩ := hI.at k hlt
      have HI := Lib.hid hrow
      clear hI hrow
      by_cases h3 : 128 < n2
      · go_wp2
        go_ret
        have e : checkRow N (L.getD k []) = 2 := by unfold checkRow; rw [if_pos (by rw [← HE2.out]; exact h3)]
        exact ⟨congrArg (fun x => Ending.returned (.int .i64 x)) (by rw [checkRows_at N L k (by rw [← HE.out]; exact hlt) hno.out (by rw [e]; decide), e]), hb⟩
      · go_wp2
        go_loop [31] (fun i => ∃ j : Nat, j ≤ n2 ∧ i = .int .i64 j ∧ Hid (∀ l ∈ (L.getD k []).take j, litOk l N = true)) (fun i => n2 - (intOf i).toNat)
        case atStart => exact ⟨0, Nat.zero_le _, rfl, by intro l hl; simp at hl⟩
        case round =>
          obtain ⟨j, hj, rfl, hno2⟩ := hrel
          by_cases hlt2 : j < n2
          · obtain ⟨b2, o2, rfl, hcell3, hr⟩ := HI.out.at j hlt2
            have HM := Lib.hid (getD_mem (L.getD k []) j (by have := HE2.out; omega) 0)
            have HS := Lib.hid (take_succ_getD (L.getD k []) j (by have := HE2.out; omega) 0)
            generalize hz : (L.getD k []).getD j 0 = z at *
            clear hz
            have hp := fun w => HP.out z w hr
            have HZ := Lib.hid hr
            clear hr
            cases hq : litOk z N
            all_goals
              simp only [hq] at hp
              have HQ := Lib.hid hq
              clear hq
              go_wp2_with (go_at_call 36; refine (hp _).mono ?_; rintro e w' ⟨rfl, rfl⟩)
            · go_ret
              have e : checkRow N (L.getD k []) = 1 := by
                unfold checkRow
                rw [if_neg (by rw [← HE2.out]; exact h3), if_neg]
                rw [List.all_eq_true]; intro hh; have := hh z HM.out; rw [HQ.out] at this; cases this
              exact ⟨congrArg (fun x => Ending.returned (.int .i64 x)) (by rw [checkRows_at N L k (by rw [← HE.out]; exact hlt) hno.out (by rw [e]; decide), e]), hb⟩
            · go_round
              case rel => exact ⟨j + 1, by omega, by go_num, by intro y hy; rw [HS.out, List.mem_append, List.mem_singleton] at hy; rcases hy with hy | rfl; exact hno2.out y hy; exact HQ.out⟩
              case measure => simp [intOf]; omega
          · go_wp2
            go_roundw
            case rel =>
              refine ⟨k + 1, by omega, by go_num, ?_, hv, hb⟩
              intro i hi
              by_cases e : i < k
              · exact hno.out i e
              · obtain rfl : i = k := by omega
                have hall := hno2.out
                rw [List.take_of_length_le (by have := HE2.out; omega)] at hall
                unfold checkRow
                rw [if_neg (by rw [← HE2.out]; exact h3), if_pos (List.all_eq_true.2 hall)]
            case measure => simp [intOf]; omega
    · go_wp2
      go_ret
      exact ⟨congrArg (fun x => Ending.returned (.int .i64 x)) (by rw [checkRows_all N L (fun j hj => hno.out j (by have := HE.out; omega))]), hb⟩
end Go.Proofs.Ytkollnaojpppcaa
