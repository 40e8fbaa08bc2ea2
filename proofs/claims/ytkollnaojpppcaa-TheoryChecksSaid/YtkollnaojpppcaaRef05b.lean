/- Contract of censusref05.Eval; no condition. -/
import Derived.Test.YtkollnaojpppcaaRef05
namespace Go.Proofs.Ytkollnaojpppcaa
open Go.RowKit

theorem litOk_range {l n : Int} (h : litOk l n = true) : -128 ≤ l ∧ l ≤ 128 ∧ l ≠ 0 ∧ -n ≤ l ∧ l ≤ n := by
  unfold litOk at h
  simp only [Bool.and_eq_true, decide_eq_true_eq] at h
  obtain ⟨h1, h2⟩ := h
  unfold litVar at *
  split at h1
  · split at h2 <;> omega
  · split at h1
    · rw [if_neg (by omega), if_pos (by omega)] at h2; omega
    · omega

theorem checkRows_ok {N : Int} : ∀ {L : List (List Int)}, checkRows N L = 0 → ∀ c ∈ L, c.length ≤ 128 ∧ ∀ l ∈ c, litOk l N = true
  | [], _, c, hc => by cases hc
  | d :: r, h, c, hc => by
    rw [checkRows] at h
    by_cases h0 : checkRow N d = 0
    · rw [if_pos h0] at h
      rcases List.mem_cons.1 hc with rfl | hc
      · unfold checkRow at h0
        split at h0
        · cases h0
        · split at h0
          · rename_i h1 h2; exact ⟨by omega, List.all_eq_true.1 h2⟩
          · cases h0
      · exact checkRows_ok h c hc
    · rw [if_neg h0] at h; exact absurd h h0

theorem checkT_ok {N : Int} {L : List (List Int)} (h : checkT N L = 0) : 0 ≤ N ∧ N ≤ 128 ∧ L.length ≤ 4096 ∧ ∀ c ∈ L, c.length ≤ 128 ∧ ∀ l ∈ c, litOk l N = true := by
  unfold checkT at h
  split at h
  · cases h
  · split at h
    · cases h
    · exact ⟨by omega, by omega, by omega, checkRows_ok h⟩

theorem checkT_range (N : Int) (L : List (List Int)) : 0 ≤ checkT N L ∧ checkT N L ≤ 6 := by
  have h : ∀ L, 0 ≤ checkRows N L ∧ checkRows N L ≤ 2 := by
    intro L
    induction L with
    | nil => simp [checkRows]
    | cons c r ih =>
      rw [checkRows]
      split
      · exact ih
      · unfold checkRow; split <;> (try split) <;> omega
  have := h L
  unfold checkT
  split <;> (try split) <;> omega

/-- A theory is true in a set. -/
def evalT (N : Int) (L : List (List Int)) (s : BitVec 128) : Bool := decide (checkT N L = 0) && sUpto s N && L.all (fun c => c.any (litHolds s))

theorem any_snoc {α : Type} (p : α → Bool) (l : List α) (x : α) : (l ++ [x]).any p = (l.any p || p x) := by simp
theorem all_snoc {α : Type} (p : α → Bool) (l : List α) (x : α) : (l ++ [x]).all p = (l.all p && p x) := by simp

set_option maxHeartbeats 1000000 in
theorem ref05Eval_c {F : Foot} {w : World} {v : Value} {L : List (List Int)} (N : Int) (s : BitVec 128) (hN : I64 N) (h : IntRows F w v L) :
    Calls Try.prog 25 #[.agg #[.int .i64 N, v], SV s] w (Gives w (.bool (evalT N L s))) := by
  have HC : ∀ W, Below w.heap.size w W → Calls Try.prog 18 #[.agg #[.int .i64 N, v]] W (Gives W (.int .i64 (checkT N L))) := fun W hW => ref05Check_c N hN (Enc.below _ h hW)
  obtain ⟨a, n, c, rfl, HE, _, hm⟩ := h.open
  have HR := Lib.hid h
  clear h
  unfold I64 at hN
  obtain ⟨hN1, hN2⟩ := hN
  unfold evalT
  have hcr := checkT_range N L
  have hca : checkT N L = 0 → _ := fun h => checkT_ok h
  have HA := Lib.hid hca
  clear hca
  have hpA := fun w h0 h1 => ref05Assignment_c s N w h0 h1
  have hpH := fun l w h0 h1 => ref05Holds_c s l w h0 h1
  have HEQ := Lib.hid (fun l (h : litOk l N = true) => holds05_eq (s := s) h)
  unfold SV WV Gives at *
  generalize hlo : lo s = x at *
  generalize hhi : hi s = y at *
  clear hlo hhi
  by_cases he : checkT N L = 0
  · obtain ⟨hN0, hN1, hLn, hlits⟩ := HA.out he
    rw [decide_eq_true he, Bool.true_and]
    replace HC := fun W hW => HC W hW
    simp only [he] at HC
    have hpA := fun w => hpA w hN0 hN1
    have HLT := Lib.hid hlits
    have HHO := Lib.hid hpH
    clear HA hcr he hlits hpH hLn
    have HCC := Lib.hid HC
    clear HC
    have c1 := fun W => HCC.out W
    cases hu : sUpto s N
    · simp only [hu] at hpA
      clear hu
      go_enter Try.func25, Try.ntmps25
      go_wp2_with fail
      refine (HCC.out _ (below2 _ _ _)).mono ?_
      rintro e w1 ⟨rfl, hb1⟩
      have hv1 : Two w1 w.heap.size 24 (.int .i64 N) (.slice a n c) := ((Two.new _ _ _ _).alloc _).below hb1 (by simp; omega)
      have hv2 : Two w1 (w.heap.size + 1) 36 (.int .u64 (x.toNat : Int)) (.int .u64 (y.toNat : Int)) := Two.below (by simpa using Two.new (w.alloc (.cells #[.int .i64 N, .slice a n c] 24)) 36 (.int .u64 (x.toNat : Int)) (.int .u64 (y.toNat : Int))) hb1 (by simp)
      have g0 := hv1.c0
      have g1 := hv1.c1
      have g2 := hv2.c0
      have g3 := hv2.c1
      clear c1
      go_wp2_with (go_at_call 50; refine (hpA _).mono ?_; rintro e w2 ⟨rfl, hb2⟩)
      go_ret
      exact ⟨rfl, ((below2 _ _ _).trans (hb1.mono (by simp; omega))).trans (hb2.mono (by have := hb1.size; simp at this; omega))⟩
    · simp only [hu] at hpA
      clear hu
      rw [Bool.true_and]
      go_enter Try.func25, Try.ntmps25
      go_wp2_with fail
      refine (HCC.out _ (below2 _ _ _)).mono ?_
      rintro e w1 ⟨rfl, hb1⟩
      have hv1 : Two w1 w.heap.size 24 (.int .i64 N) (.slice a n c) := ((Two.new _ _ _ _).alloc _).below hb1 (by simp; omega)
      have hv2 : Two w1 (w.heap.size + 1) 36 (.int .u64 (x.toNat : Int)) (.int .u64 (y.toNat : Int)) := Two.below (by simpa using Two.new (w.alloc (.cells #[.int .i64 N, .slice a n c] 24)) 36 (.int .u64 (x.toNat : Int)) (.int .u64 (y.toNat : Int))) hb1 (by simp)
      have g0 := hv1.c0
      have g1 := hv1.c1
      have g2 := hv2.c0
      have g3 := hv2.c1
      clear c1
      go_wp2_with (go_at_call 50; refine (hpA _).mono ?_; rintro e w2 ⟨rfl, hb2⟩)
      have hbb : Below w.heap.size w w2 := ((below2 _ _ _).trans (hb1.mono (by simp; omega))).trans (hb2.mono (by have := hb1.size; simp at this; omega))
      have hv1' := hv1.below hb2 hv1.lt
      have hv2' := hv2.below hb2 hv2.lt
      clear hb1 hb2 g0 g1 g2 g3 hpA
      go_loopw [5] (fun i wr => ∃ k : Nat, k ≤ n ∧ i = .int .i64 k ∧ Hid ((L.take k).all (fun c => c.any (litHolds s)) = true) ∧ Two wr w.heap.size 24 (.int .i64 N) (.slice a n c) ∧ Two wr (w.heap.size + 1) 36 (.int .u64 (x.toNat : Int)) (.int .u64 (y.toNat : Int)) ∧ Below w.heap.size w wr) (fun i _ => n - (intOf i).toNat)
      case atStart => exact ⟨0, Nat.zero_le _, rfl, by simp [Hid], hv1', hv2', hbb⟩
      clear hv1' hv2' hbb hv1 hv2
      case round =>
        obtain ⟨k, hk, rfl, hno, hv, hs, hb⟩ := hrel
        obtain ⟨wo, rfl⟩ : ∃ wo : World, wo = wr := ⟨_, rfl⟩
        have g0 := hv.c0
        have g1 := hv.c1
        by_cases hlt : k < n
        · have hI : IntRows F wo (.slice a n c) L := Enc.below _ HR.out hb
          obtain ⟨b, o, a2, n2, c2, rfl, hcell, hrow, HE2, hm2⟩ := hI.at k hlt
          have HI := Lib.hid hrow
          have HM1 := Lib.hid (getD_mem L k (by have := HE.out; omega) [])
          have HS1 := Lib.hid (take_succ_getD L k (by have := HE.out; omega) [])
          clear hI hrow
          generalize hrw : L.getD k [] = row at *
          clear hrw
          have hrow := HLT.out row HM1.out
          have HRO := Lib.hid hrow.2
          clear hrow
          go_wp2
          go_loopw [7, 6] (fun i z wr => ∃ j : Nat, j ≤ n2 ∧ i = .int .i64 j ∧ z = .bool ((row.take j).any (litHolds s)) ∧ Two wr w.heap.size 24 (.int .i64 N) (.slice (some ⟨b, o, none⟩) n c) ∧ Two wr (w.heap.size + 1) 36 (.int .u64 (x.toNat : Int)) (.int .u64 (y.toNat : Int)) ∧ Below wo.heap.size wo wr) (fun i _ _ => n2 - (intOf i).toNat)
          case atStart => exact ⟨0, Nat.zero_le _, rfl, by simp, hv, hs, below0 _⟩
          case round =>
            obtain ⟨j, hj, rfl, rfl, hv2, hs2, hb2⟩ := hrel
            have hcell2 := hb2.cell (p := ⟨b, o + k, none⟩) (World.block_lt_of_cell? _ _ hcell)
            rw [hcell] at hcell2
            have q0 := hv2.c0
            have q1 := hv2.c1
            have q2 := hs2.c0
            have q3 := hs2.c1
            by_cases hlt2 : j < n2
            · have hI2 : Ints F wr (.slice a2 n2 c2) row := Enc.below _ HI.out hb2
              obtain ⟨b2, o2, rfl, hcell3, hr⟩ := hI2.at j hlt2
              have HM := Lib.hid (getD_mem row j (by have := HE2.out; omega) 0)
              have HS := Lib.hid (take_succ_getD row j (by have := HE2.out; omega) 0)
              clear hI2
              generalize hz : row.getD j 0 = z at *
              clear hz hr
              have hzr := litOk_range (HRO.out z HM.out)
              have HZ := Lib.hid (HEQ.out z (HRO.out z HM.out))
              have hp := fun w => HHO.out z w hzr.1 hzr.2.1
              rw [HZ.out] at hp
              have p0 := fun g => cell_plus q0 g
              have p1 := fun g => cell_plus q1 g
              have p2 := fun g => cell_plus hcell2 g
              have p3 := fun g => cell_plus hcell3 g
              have p4 := fun g => cell_plus q2 g
              have p5 := fun g => cell_plus q3 g
              have hk0 : (0 : Int) ≤ k := by omega
              have hk1 : (k : Int) < n := by omega
              have hj0 : (0 : Int) ≤ j := by omega
              have hj1 : (j : Int) < n2 := by omega
              clear hzr hcell hcell3 g0 g1
              have HAC : ∃ t, Hid ((row.take j).any (litHolds s) = t) := ⟨_, rfl⟩
              obtain ⟨t, HAC⟩ := HAC
              rw [HAC.out]
              cases t
              all_goals
                go_wp2
                refine wp_region_grow_lit (by kernel_rfl) (by kernel_rfl) ?_
                repeat (go_big_quiet_step ((go_at_call 51; exact Calls.grow_of (hp _))))
                refine wpQuiet_nil ?_
                intro _ hw1
                obtain ⟨gg, hw2⟩ := hw1
                subst hw2
                have hb3 := hb2.trans ((below_plus wr gg).mono hb2.size)
                have hv3 := hv2.below (below_plus wr gg) hv2.lt
                have hs3 := hs2.below (below_plus wr gg) hs2.lt
                go_wp2
                go_roundw
                case rel => exact ⟨j + 1, by omega, by go_num, by rw [HS.out, any_snoc, HAC.out]; rfl, hv3, hs3, hb3⟩
                case measure => simp [intOf]; omega
            · have HAL : ∃ t, Hid (row.any (litHolds s) = t) := ⟨_, rfl⟩
              obtain ⟨t, HAL⟩ := HAL
              rw [List.take_of_length_le (by have := HE2.out; omega), HAL.out]
              cases t
              · go_wp2
                go_ret
                exact ⟨congrArg (fun b => Ending.returned (.bool b)) (by rw [eq_comm, List.all_eq_false]; exact ⟨row, HM1.out, by rw [HAL.out]; decide⟩), hb.trans (hb2.mono hb.size)⟩
              · go_wp2
                go_roundw
                case rel => exact ⟨k + 1, by omega, by go_num, by unfold Hid; rw [HS1.out, all_snoc, hno.out, HAL.out]; rfl, hv2, hs2, hb.trans (hb2.mono hb.size)⟩
                case measure => simp [intOf]; omega
        · go_wp2
          go_ret
          have hall := hno.out
          rw [List.take_of_length_le (by have := HE.out; omega)] at hall
          exact ⟨congrArg (fun b => Ending.returned (.bool b)) hall.symm, hb⟩
  · have hne : (checkT N L != 0) = true := by simp [he]
    rw [decide_eq_false he]
    generalize checkT N L = t at *
    have HCC := Lib.hid HC
    clear HC HA hpH hpA HEQ he
    go_enter Try.func25, Try.ntmps25
    go_wp2_with fail
    refine (HCC.out _ (below2 _ _ _)).mono ?_
    rintro e w1 ⟨rfl, hb1⟩
    go_wp2
    go_ret
    exact ⟨rfl, (below2 _ _ _).trans (hb1.mono (by simp; omega))⟩
end Go.Proofs.Ytkollnaojpppcaa
