/- Contracts of censusref05: Valid, Has, Holds, Assignment, Check; no condition. -/
import Derived.Test.YtkollnaojpppcaaRef04b
namespace Go.Proofs.Ytkollnaojpppcaa
open Go.RowKit

theorem IntRows.at {F : Foot} {w : World} {a : Option Addr} {n c : Nat} {L : List (List Int)} (h : IntRows F w (.slice a n c) L) (k : Nat) (hk : k < n) :
    ∃ b o a2 n2 c2, a = some ⟨b, o, none⟩ ∧ w.cell? ⟨b, o + k, none⟩ = some (.slice a2 n2 c2) ∧ Ints F w (.slice a2 n2 c2) (L.getD k []) ∧ Hid (n2 = (L.getD k []).length) ∧ n2 ≤ 17592186044416 := by
  obtain ⟨a', n', c', h1, h2, h3, h4, _, h5⟩ := h
  simp only [List.cons.injEq, and_true, Value.slice.injEq] at h1
  obtain ⟨rfl, rfl, rfl⟩ := h1
  obtain ⟨b, o, raw, g1, g2, g3, g4⟩ := h5 k (by omega)
  obtain ⟨a2, n2, c2, g5, g6, g7, g8, g0, g9⟩ := g4
  have e : L.getD k [] = L[k]'(by omega) := by simp [List.getD, show k < L.length by omega]
  subst g5
  have := (g3 0 (by simp)).cell
  rw [e]
  exact ⟨b, o, a2, n2, c2, g1, by simpa [eList] using this, ⟨a2, n2, c2, rfl, g6, g7, g8, g0, g9⟩, g6, by simp only [eInt] at g8; omega⟩

theorem IntRows.open {F : Foot} {w : World} {v : Value} {L : List (List Int)} (h : IntRows F w v L) :
    ∃ a n c, v = .slice a n c ∧ Hid (n = L.length) ∧ n ≤ c ∧ n ≤ 5864062014805 := by
  obtain ⟨a', n', c', h1, h2, h3, h4, _, h5⟩ := h
  simp only [List.cons.injEq, and_true] at h1
  exact ⟨a', n', c', h1, h2, h3, by simp only [eList] at h4; omega⟩

set_option maxHeartbeats 400000 in
theorem ref05Valid_c (l n : Int) (w : World) (hl : I64 l) (h0 : 0 ≤ n) (h1 : n ≤ 128) :
    Calls Try.prog 37 #[.int .i64 l, .int .i64 n] w fun e w' => e = .returned (.bool (litOk l n)) ∧ w = w' := by
  unfold I64 at hl
  obtain ⟨hl1, hl2⟩ := hl
  have HF := Lib.hid (show litOk l n = (decide (l ≠ 0) && decide (-n ≤ l) && decide (l ≤ n)) by
    unfold litOk litVar
    rw [Bool.eq_iff_iff]
    simp only [Bool.and_eq_true, decide_eq_true_eq]
    split
    · omega
    · split <;> omega)
  by_cases e0 : l = 0
  · subst e0
    go_enter Try.func37, Try.ntmps37
    go_wp2
    go_ret
    exact ⟨by rw [HF.out]; simp, rfl⟩
  · have hne : (l != 0) = true := by simp [e0]
    by_cases e1 : -n ≤ l
    · go_enter Try.func37, Try.ntmps37
      go_wp2
      go_ret
      exact ⟨by rw [HF.out]; simp [e0, e1], rfl⟩
    · have e1' : l < -n := by omega
      go_enter Try.func37, Try.ntmps37
      go_wp2
      go_ret
      exact ⟨by rw [HF.out]; simp; omega, rfl⟩

set_option maxHeartbeats 400000 in
theorem ref05Has_c (s : BitVec 128) (v : Int) (w : World) : Calls Try.prog 60 #[SV s, .int .i64 v] w (Gives w (.bool (sHas s v))) := by
  unfold SV WV
  rcases (by omega : v < 1 ∨ 128 < v ∨ (1 ≤ v ∧ v ≤ 64) ∨ (65 ≤ v ∧ v ≤ 128)) with h | h | ⟨h1, h3⟩ | ⟨h1, h2⟩
  · rw [sHas_out s v (.inl h)]
    generalize lo s = x
    generalize hi s = y
    go_enter Try.func60, Try.ntmps60
    go_wp2
    go_ret
    exact ⟨rfl, below1 _ _⟩
  · rw [sHas_out s v (.inr h)]
    generalize lo s = x
    generalize hi s = y
    have h' : 1 ≤ v := by omega
    go_enter Try.func60, Try.ntmps60
    go_wp2
    go_ret
    exact ⟨rfl, below1 _ _⟩
  · rw [sHas_lo s v h1 h3]
    have HF := Lib.hid (word_odd (lo s) (v - 1).toNat)
    generalize lo s = x at *
    generalize hi s = y at *
    have h2 : v ≤ 128 := by omega
    have h4 : (v - 1) / 64 = 0 := by omega
    have h5 : (v - 1) % 64 = v - 1 := by omega
    go_enter Try.func60, Try.ntmps60
    go_wp2
    go_ret
    exact ⟨congrArg (fun b => Ending.returned (.bool b)) (by first | exact HF.out | (rw [show v.toNat - 1 = (v - 1).toNat by omega]; exact HF.out)), below1 _ _⟩
  · rw [sHas_hi s v (by omega) h2]
    have HF := Lib.hid (word_odd (hi s) (v - 65).toNat)
    generalize lo s = x at *
    generalize hi s = y at *
    have h1' : 1 ≤ v := by omega
    have h4 : (v - 1) / 64 = 1 := by omega
    have h5 : (v - 1) % 64 = v - 65 := by omega
    go_enter Try.func60, Try.ntmps60
    go_wp2
    go_ret
    exact ⟨congrArg (fun b => Ending.returned (.bool b)) HF.out, below1 _ _⟩

/-- A literal other than 0 is true in a set (the reference's way). -/
def holds05 (s : BitVec 128) (l : Int) : Bool := if l < 0 then !sHas s (-l) else sHas s l

theorem holds05_eq {s : BitVec 128} {l n : Int} (h : litOk l n = true) : holds05 s l = litHolds s l := by
  unfold holds05 litHolds
  unfold litOk at h
  simp only [Bool.and_eq_true, decide_eq_true_eq] at h
  obtain ⟨h1, h2⟩ := h
  rw [decide_eq_true h1, Bool.true_and]
  by_cases hl : l < 0
  · have : litVar l = -l := by unfold litVar at *; split at h1 <;> (try split at h1) <;> (try split) <;> omega
    rw [if_pos hl, this, decide_eq_false (by omega)]; cases sHas s (-l) <;> rfl
  · have : litVar l = l := by unfold litVar at *; split at h1 <;> (try split at h1) <;> (try split) <;> omega
    rw [if_neg hl, this, decide_eq_true (by rw [← this]; exact h1)]; cases sHas s l <;> rfl

set_option maxHeartbeats 400000 in
theorem ref05Holds_c (s : BitVec 128) (l : Int) (w : World) (h1 : -128 ≤ l) (h2 : l ≤ 128) :
    Calls Try.prog 51 #[SV s, .int .i64 l] w (Gives w (.bool (holds05 s l))) := by
  unfold holds05
  have hp := fun v w => ref05Has_c s v w
  unfold SV WV Gives at *
  generalize lo s = x at *
  generalize hi s = y at *
  by_cases h : l < 0
  · rw [if_pos h]
    go_enter Try.func51, Try.ntmps51
    go_wp2_with (go_at_call 60; refine (hp _ _).mono ?_; rintro e w1 ⟨rfl, hb⟩)
    go_ret
    exact ⟨rfl, (below1 _ _).trans (hb.mono (by simp))⟩
  · rw [if_neg h]
    go_enter Try.func51, Try.ntmps51
    go_wp2_with (go_at_call 60; refine (hp _ _).mono ?_; rintro e w1 ⟨rfl, hb⟩)
    go_ret
    exact ⟨rfl, (below1 _ _).trans (hb.mono (by simp))⟩

/-- A set holds variables up to n alone. -/
def sUpto (s : BitVec 128) (n : Int) : Bool := decide (∀ k : Nat, k < 128 → n ≤ k → s.getLsbD k = false)
theorem sUpto_iff (s : BitVec 128) (n : Int) (hn : 0 ≤ n) : sUpto s n = true ↔ ∀ v : Int, n < v → sHas s v = false := by
  unfold sUpto
  rw [decide_eq_true_eq]
  constructor
  · intro h v hv
    by_cases h2 : v ≤ 128
    · have := h (v - 1).toNat (by omega) (by omega)
      unfold sHas
      rw [this, Bool.and_false]
    · exact sHas_out s v (.inr (by omega))
  · intro h k hk hn2
    have := h (k + 1) (by omega)
    simpa [sHas, show ((k : Int) + 1 ≤ 128) by omega, show (1 : Int) ≤ (k : Int) + 1 by omega] using this

set_option maxHeartbeats 400000 in
theorem ref05Assignment_c (s : BitVec 128) (n : Int) (w : World) (h1 : 0 ≤ n) (h2 : n ≤ 128) :
    Calls Try.prog 50 #[SV s, .int .i64 n] w (Gives w (.bool (sUpto s n))) := by
  have hp := fun v w => ref05Has_c s v w
  unfold SV WV Gives at *
  generalize hlo : lo s = x at *
  generalize hhi : hi s = y at *
  clear hlo hhi
  have HP := Lib.hid hp
  clear hp
  go_enter Try.func50, Try.ntmps50
  go_wp2
  go_loopw [5] (fun i wr => ∃ k : Int, n < k ∧ k ≤ 129 ∧ i = .int .i64 k ∧ Hid (∀ v, n < v → v < k → sHas s v = false) ∧ Two wr w.heap.size 36 (.int .u64 (x.toNat : Int)) (.int .u64 (y.toNat : Int)) ∧ Below w.heap.size w wr) (fun i _ => (129 - intOf i).toNat)
  case atStart => exact ⟨n + 1, by omega, by omega, rfl, by intro v hv hv2; omega, Two.new _ _ _ _, below1 _ _⟩
  case round =>
    obtain ⟨k, hk1, hk2, rfl, hno, hv, hb⟩ := hrel
    have l1 := hv.lt
    have g0 := hv.c0
    have g1 := hv.c1
    by_cases hlt : k ≤ 128
    · have hp := fun w => HP.out k w
      cases hq : sHas s k
      all_goals
        simp only [hq] at hp
        have HQ := Lib.hid hq
        clear hq
        go_wp2_with (go_at_call 60; refine (hp _).mono ?_; rintro e w1 ⟨rfl, hb1⟩)
      · have hv1 := hv.below hb1 l1
        go_roundw
        case rel => exact ⟨k + 1, by omega, by omega, rfl, by intro v h3 h4; by_cases e : v < k; exact hno.out v h3 e; (obtain rfl : v = k := by omega); exact HQ.out, hv1, hb.trans (hb1.mono hb.size)⟩
        case measure => simp [intOf]; omega
      · go_ret
        exact ⟨congrArg (fun b => Ending.returned (.bool b)) (by rw [eq_comm, Bool.eq_false_iff]; intro h; rw [sUpto_iff s n h1] at h; rw [h k hk1] at HQ; cases HQ.out), hb.trans (hb1.mono hb.size)⟩
    · go_wp2
      go_ret
      exact ⟨congrArg (fun b => Ending.returned (.bool b)) (by rw [eq_comm, sUpto_iff s n h1]; intro v hv; by_cases e : v < k; exact hno.out v hv e; exact sHas_out s v (.inr (by omega))), hb⟩

/-- The first fault of a row of literals of n variables: 0 none, 2 too long, 1 no literal. -/
def checkRow (N : Int) (c : List Int) : Int := if 128 < c.length then 2 else if c.all (fun l => litOk l N) then 0 else 1
/-- The first fault of rows. -/
def checkRows (N : Int) : List (List Int) → Int
  | [] => 0
  | c :: r => if checkRow N c = 0 then checkRows N r else checkRow N c
/-- Check: 0 valid, 6 the number of variables, 2 too long, 1 no literal. -/
def checkT (N : Int) (L : List (List Int)) : Int := if N < 0 ∨ 128 < N then 6 else if 4096 < L.length then 2 else checkRows N L

theorem checkRows_at (N : Int) : ∀ (L : List (List Int)) (k : Nat), k < L.length → (∀ j, j < k → checkRow N (L.getD j []) = 0) → checkRow N (L.getD k []) ≠ 0 → checkRows N L = checkRow N (L.getD k [])
  | [], k, h, _, _ => by simp at h
  | c :: r, 0, _, _, h2 => by simp at h2; simp [checkRows, h2]
  | c :: r, k + 1, h, h1, h2 => by
    have h0 := h1 0 (by omega)
    simp at h0
    rw [checkRows, if_pos h0]
    have := checkRows_at N r k (by simpa using h) (fun j hj => by have := h1 (j + 1) (by omega); simpa using this) (by simpa using h2)
    simpa using this
theorem checkRows_all (N : Int) : ∀ (L : List (List Int)), (∀ j, j < L.length → checkRow N (L.getD j []) = 0) → checkRows N L = 0
  | [], _ => rfl
  | c :: r, h => by
    have h0 := h 0 (by simp)
    simp at h0
    rw [checkRows, if_pos h0]
    exact checkRows_all N r (fun j hj => by have := h (j + 1) (by simpa using hj); simpa using this)

set_option maxHeartbeats 800000 in
theorem ref05Check_c {F : Foot} {w : World} {v : Value} {L : List (List Int)} (N : Int) (hN : I64 N) (h : IntRows F w v L) :
    Calls Try.prog 18 #[.agg #[.int .i64 N, v]] w (Gives w (.int .i64 (checkT N L))) := by
  obtain ⟨a, n, c, rfl, HE, _, hm⟩ := h.open
  unfold I64 at hN
  obtain ⟨hN1, hN2⟩ := hN
  have HR := Lib.hid h
  clear h
  unfold checkT
  rcases (by omega : N < 0 ∨ 128 < N ∨ (0 ≤ N ∧ N ≤ 128)) with h | h | ⟨h0, h1⟩
  · rw [if_pos (.inl h)]
    go_enter Try.func18, Try.ntmps18
    go_wp2
    go_ret
    exact ⟨rfl, below1 _ _⟩
  · rw [if_pos (.inr h)]
    have h' : 0 ≤ N := by omega
    go_enter Try.func18, Try.ntmps18
    go_wp2
    go_ret
    exact ⟨rfl, below1 _ _⟩
  rw [if_neg (by omega)]
  by_cases h2 : 4096 < n
  · rw [if_pos (by rw [← HE.out]; exact h2)]
    go_enter Try.func18, Try.ntmps18
    go_wp2
    go_ret
    exact ⟨rfl, below1 _ _⟩
  rw [if_neg (by rw [← HE.out]; exact h2)]
  have hp := fun l w hl => ref05Valid_c l N w hl h0 h1
  have HP := Lib.hid hp
  clear hp
  go_enter Try.func18, Try.ntmps18
  go_wp2
  go_loopw [3] (fun i wr => ∃ k : Nat, k ≤ n ∧ i = .int .i64 k ∧ Hid (∀ j, j < k → checkRow N (L.getD j []) = 0) ∧ Two wr w.heap.size 24 (.int .i64 N) (.slice a n c) ∧ Below w.heap.size w wr) (fun i _ => n - (intOf i).toNat)
  case atStart => exact ⟨0, Nat.zero_le _, rfl, by intro j hj; omega, Two.new _ _ _ _, below1 _ _⟩
  case round =>
    obtain ⟨k, hk, rfl, hno, hv, hb⟩ := hrel
    obtain ⟨wo, rfl⟩ : ∃ wo : World, wo = wr := ⟨_, rfl⟩
    have g0 := hv.c0
    have g1 := hv.c1
    by_cases hlt : k < n
    · have hI : IntRows F wo (.slice a n c) L := Enc.below _ HR.out hb
      obtain ⟨b, o, a2, n2, c2, rfl, hcell, hrow, HE2, hm2⟩ := hI.at k hlt
      have HI := Lib.hid hrow
      clear hI hrow
      by_cases h3 : 128 < n2
      · go_wp2
        go_ret
        have e : checkRow N (L.getD k []) = 2 := by unfold checkRow; rw [if_pos (by rw [← HE2.out]; exact h3)]
        exact ⟨congrArg (fun x => Ending.returned (.int .i64 x)) (by rw [checkRows_at N L k (by rw [← HE.out]; exact hlt) hno.out (by rw [e]; decide), e]), hb⟩
      · go_wp2
        go_loopw [4] (fun i wr => ∃ j : Nat, j ≤ n2 ∧ i = .int .i64 j ∧ Hid (∀ l ∈ (L.getD k []).take j, litOk l N = true) ∧ Two wr w.heap.size 24 (.int .i64 N) (.slice (some ⟨b, o, none⟩) n c) ∧ Below wo.heap.size wo wr) (fun i _ => n2 - (intOf i).toNat)
        case atStart => exact ⟨0, Nat.zero_le _, rfl, by intro l hl; simp at hl, hv, below0 _⟩
        case round =>
          obtain ⟨j, hj, rfl, hno2, hv2, hb2⟩ := hrel
          have hcell2 := hb2.cell (p := ⟨b, o + k, none⟩) (World.block_lt_of_cell? _ _ hcell)
          rw [hcell] at hcell2
          have q0 := hv2.c0
          have q1 := hv2.c1
          by_cases hlt2 : j < n2
          · have hI2 : Ints F wr (.slice a2 n2 c2) (L.getD k []) := Enc.below _ HI.out hb2
            obtain ⟨b2, o2, rfl, hcell3, hr⟩ := hI2.at j hlt2
            have HM := Lib.hid (getD_mem (L.getD k []) j (by have := HE2.out; omega) 0)
            have HS := Lib.hid (take_succ_getD (L.getD k []) j (by have := HE2.out; omega) 0)
            clear hI2
            generalize hz : (L.getD k []).getD j 0 = z at *
            clear hz
            have hp := fun w => HP.out z w hr
            have p0 := fun g => cell_plus q0 g
            have p1 := fun g => cell_plus q1 g
            have p2 := fun g => cell_plus hcell2 g
            have p3 := fun g => cell_plus hcell3 g
            have hk0 : (0 : Int) ≤ k := by omega
            have hk1 : (k : Int) < n := by omega
            have hj0 : (0 : Int) ≤ j := by omega
            have hj1 : (j : Int) < n2 := by omega
            have HZ := Lib.hid hr
            clear hr hcell hcell3 g0 g1
            cases hq : litOk z N
            all_goals
              simp only [hq] at hp
              have HQ := Lib.hid hq
              clear hq
              go_wp2
              refine wp_region_grow_lit (by kernel_rfl) (by kernel_rfl) ?_
              repeat (go_big_quiet_step ((go_at_call 37; exact Calls.grow_of ((hp _).mono fun _ _ ⟨he, hw⟩ => ⟨he, hw ▸ below0 _⟩))))
              refine wpQuiet_nil ?_
              intro _ hw1
              obtain ⟨gg, hw2⟩ := hw1
              subst hw2
              have hb3 := hb2.trans ((below_plus wr gg).mono hb2.size)
              have hv3 := hv2.below (below_plus wr gg) hv2.lt
              go_wp2
            · go_ret
              have e : checkRow N (L.getD k []) = 1 := by
                unfold checkRow
                rw [if_neg (by rw [← HE2.out]; exact h3), if_neg]
                rw [List.all_eq_true]; intro hh; have := hh z HM.out; rw [HQ.out] at this; cases this
              exact ⟨congrArg (fun x => Ending.returned (.int .i64 x)) (by rw [checkRows_at N L k (by rw [← HE.out]; exact hlt) hno.out (by rw [e]; decide), e]), hb.trans (hb3.mono hb.size)⟩
            · go_roundw
              case rel => exact ⟨j + 1, by omega, by go_num, by intro y hy; rw [HS.out, List.mem_append, List.mem_singleton] at hy; rcases hy with hy | rfl; exact hno2.out y hy; exact HQ.out, hv3, hb3⟩
              case measure => simp [intOf]; omega
          · go_wp2
            go_roundw
            case rel =>
              refine ⟨k + 1, by omega, by go_num, ?_, hv2, hb.trans (hb2.mono hb.size)⟩
              intro i hi
              by_cases e : i < k
              · exact hno.out i e
              · obtain rfl : i = k := by omega
                have hall := hno2.out
                rw [List.take_of_length_le (by have := HE2.out; omega)] at hall
                unfold checkRow
                rw [if_neg (by rw [← HE2.out]; exact h3), if_pos (List.all_eq_true.2 hall)]
            case measure => simp [intOf]; omega
    · go_wp2
      go_ret
      exact ⟨congrArg (fun x => Ending.returned (.int .i64 x)) (by rw [checkRows_all N L (fun j hj => hno.out j (by have := HE.out; omega))]), hb⟩
end Go.Proofs.Ytkollnaojpppcaa
