/- Contracts of slices.Compact at ints, lit.order, lit.Term; no condition. -/
import Derived.Test.YtkollnaojpppcaaSort
import Derived.Shelf.Slices.CompactI
namespace Go.Proofs.Ytkollnaojpppcaa
open Go.RowKit Go.Shelf Go.Sort

def compactL_ren : Go.Shelf.Ren := ⟨fun | 20 => 79 | n => n, fun | 22 => 38 | 3 => 3 | 4 => 4 | 0 => 0 | n => n, fun | n => n⟩
theorem compactL : Go.Proofs.Lays2.n20 Try.prog compactL_ren := {
  mixed := by kernel_rfl,
  f20 := Try.func79.trans (congrArg some (by kernel_rfl)),
  t0 := Try.underlying0,
  a0 := Try.isAgg0,
  z0 := Try.sizeOf0,
  v0 := Try.zeroValue0,
  t3 := Try.underlying3,
  a3 := Try.isAgg3,
  z3 := Try.sizeOf3,
  v3 := Try.zeroValue3,
  t4 := Try.underlying4,
  a4 := Try.isAgg4,
  z4 := Try.sizeOf4,
  v4 := Try.zeroValue4,
  t22 := Try.underlying38,
  a22 := Try.isAgg38,
  z22 := Try.sizeOf38,
  v22 := Try.zeroValue38,
  i3 := by kernel_rfl }


theorem putRow_grown {w : World} {g q : Nat} {d : Array Int} : w.grownBy (putRow (Value.int .i64) (Sort.ahead w q) g 0 d) (some g) := by
  refine ⟨rfl, rfl, rfl, by simp [putRow, mapBlock, Sort.ahead], fun k hk hne => ?_⟩
  simp [putRow, mapBlock, Sort.ahead, Array.getElem?_modify, show g ≠ k by intro e; subst e; exact hne rfl]

/-- Compact on a slice of the call's own. -/
theorem compact_c {F : Foot} {w : World} {B : Nat} {v : Value} {xs : List Int} (h : OwnL eInt F w B 3 v xs) (hl : xs.length ≤ LenMax) :
    Calls Try.prog 79 #[v] w fun e w' => ∃ v', e = .returned v' ∧ OwnL eInt F w' B 3 v' (Lib.compact xs) ∧ w.grownBy w' v.ownBlock := by
  obtain ⟨g1, g2⟩ := OwnL.int_iff.1 h
  by_cases h0 : xs = []
  · subst h0
    have hv : ∃ a c, v = .slice a 0 c := by
      rcases g1.2 with ⟨rfl, _⟩ | ⟨g, cap, cur, rfl, _⟩
      · exact ⟨_, _, rfl⟩
      · exact ⟨_, _, rfl⟩
    obtain ⟨a, c, rfl⟩ := hv
    have hS := Any.slices_Compact_int_empty compactL a c w
    change Calls Try.prog 79 _ _ _ at hS
    exact hS.mono fun e w' ⟨he, hw⟩ => ⟨_, he, by subst hw; exact h, by subst hw; exact World.grownBy.refl _ _⟩
  · have hv : v ≠ .slice none 0 0 := by
      intro e; subst e
      rcases g1.2 with ⟨_, e0⟩ | ⟨g, cap, cur, e0, _⟩
      · exact h0 (List.eq_nil_of_length_eq_zero e0)
      · cases e0
    obtain ⟨g, cap, rfl, hb, hlt, hnc, hcm, hlen, hH⟩ := Lib.holds_of_ownsRow g1 hv
    have hS := Any.slices_Compact_int compactL g 0 cap xs w hH (by unfold LenMax at hl; omega) hnc
    change Calls Try.prog 79 _ _ _ at hS
    refine hS.mono fun e w' ⟨he, q, hw⟩ => ⟨_, he, ?_, ?_⟩
    · subst hw
      rw [OwnL.int_iff]
      have hle := Lib.compact_length_le xs
      have h5 := Lib.ownsRow_putRow (q := q) (ys := Lib.compact xs ++ List.replicate (xs.length - (Lib.compact xs).length) 0) (k := (Lib.compact xs).length) g1 (by simp; omega) hle
      rw [List.take_left'  rfl] at h5
      refine ⟨h5, fun y hy => g2 y ?_⟩
      unfold Lib.compact Lib.compactUpTo at hy
      obtain ⟨j, hj, rfl⟩ := List.mem_map.1 hy
      have hj2 := List.mem_range.1 (List.mem_filter.1 hj).1
      simp [getElem!_pos, hj2]
    · subst hw
      exact putRow_grown

/-- Literals in order, each once. -/
def orderL (xs : List Int) : List Int := Lib.compact (sortLits xs)

theorem mem_compact {zs : List Int} {y : Int} : y ∈ Lib.compact zs ↔ y ∈ zs := by
  unfold Lib.compact Lib.compactUpTo
  constructor
  · intro hy
    obtain ⟨j, hj, rfl⟩ := List.mem_map.1 hy
    have hj2 := List.mem_range.1 (List.mem_filter.1 hj).1
    simp [getElem!_pos, hj2]
  · intro hy
    obtain ⟨k, hk, rfl⟩ := List.mem_iff_getElem.1 hy
    -- the first place of the run
    have : ∀ k (hk : k < zs.length), ∃ j, j ≤ k ∧ Lib.keeps zs.toArray j = true ∧ zs.toArray[j]! = zs[k] := by
      intro k
      induction k with
      | zero => intro hk; exact ⟨0, Nat.le_refl _, Lib.keeps_lt_one _ 0 (by omega), by simp [getElem!_pos, hk]⟩
      | succ k ih =>
        intro hk
        by_cases hkeep : Lib.keeps zs.toArray (k + 1) = true
        · exact ⟨k + 1, Nat.le_refl _, hkeep, by simp [getElem!_pos, hk]⟩
        · obtain ⟨j, h1, h2, h3⟩ := ih (by omega)
          refine ⟨j, by omega, h2, ?_⟩
          rw [h3]
          unfold Lib.keeps at hkeep
          simp [getElem!_pos, hk, show k < zs.length by omega] at hkeep
          exact hkeep.symm
    obtain ⟨j, h1, h2, h3⟩ := this k hk
    exact List.mem_map.2 ⟨j, List.mem_filter.2 ⟨List.mem_range.2 (by omega), h2⟩, h3⟩

theorem mem_orderL {xs : List Int} {y : Int} : y ∈ orderL xs ↔ y ∈ xs := by
  unfold orderL sortLits
  rw [mem_compact, List.mem_mergeSort]

theorem orderL_len (xs : List Int) : (orderL xs).length ≤ xs.length := by
  have := Lib.compact_length_le (sortLits xs)
  unfold orderL
  have h2 : (sortLits xs).length = xs.length := List.length_mergeSort _
  omega

/-- It returns a slice of its own that holds this. -/
theorem order_c {F : Foot} {w : World} {v : Value} {xs : List Int} (h : Ints F w v xs) (hr : ∀ y ∈ xs, -128 ≤ y ∧ y ≤ 128) :
    Calls Try.prog 62 #[v] w (GivesOwn w (orderL xs)) := by
  have hp := clone_c h
  have hlen : xs.length ≤ LenMax := by obtain ⟨a, n, c, _, hn, _, hm, _⟩ := h.open; omega
  have HR := Lib.hid hr
  have HL := Lib.hid hlen
  clear h hr hlen
  go_enter Try.func62, Try.ntmps62
  go_wp2_with fail
  refine hp.mono ?_
  rintro e w1 ⟨v1, rfl, hown1, hb1⟩
  have hq := sortLits_c hown1 HR.out HL.out
  clear hp
  go_wp2_with fail
  refine hq.mono ?_
  rintro e w2 ⟨rfl, hown2, hg2⟩
  have hs := compact_c hown2 (by have h2 : (sortLits xs).length = xs.length := List.length_mergeSort _; rw [h2]; exact HL.out)
  have hb2 := hb1.grown hg2 hb1.size (fun g hg => (hown1.lt hg).1)
  clear hq hown1 hg2
  go_wp2_with fail
  refine hs.mono ?_
  rintro e w3 ⟨v3, rfl, hown3, hg3⟩
  have hb3 := hb2.grown hg3 hb2.size (fun g hg => (hown2.lt hg).1)
  clear hs hown2 hg3
  go_wp2
  go_ret
  exact ⟨_, rfl, hown3, hb3⟩

/-- The literals as a term, or none. -/
def termL (xs : List Int) (n : Int) : Option (List Int) := if (xs.all fun y => litOk y n) && !adjOpp (orderL xs) then some (orderL xs) else none
/-- It returns a term, or false. -/
def GivesTerm (w : World) (r : Option (List Int)) (e : Ending) (w' : World) : Prop := ∃ v, e = .returned (.tuple #[v, .bool r.isSome]) ∧ Ints (Fresh w.heap.size) w' v (r.getD []) ∧ Below w.heap.size w w'

set_option maxHeartbeats 400000 in
theorem term_c {F : Foot} {w : World} {v : Value} {xs : List Int} (n : Int) (h : Ints F w v xs) :
    Calls Try.prog 52 #[v, .int .i64 n] w (GivesTerm w (termL xs n)) := by
  have hp := litvalid_c n h
  have hlen : xs.length ≤ LenMax := by obtain ⟨a, n, c, _, hn, _, hm, _⟩ := h.open; omega
  have HX := Lib.hid h
  have HL := Lib.hid hlen
  clear h hlen
  cases hv : (xs.all fun y => litOk y n)
  · have HT := Lib.hid (show termL xs n = none by unfold termL; rw [hv]; rfl)
    rw [hv] at hp
    clear hv
    go_enter Try.func52, Try.ntmps52
    go_wp2_with fail
    refine hp.mono ?_
    rintro e w1 ⟨rfl, hb1⟩
    clear hp
    go_wp2
    go_ret2
    exact ⟨_, by rw [HT.out]; rfl, by rw [HT.out]; exact ints_nil _ _, hb1⟩
  · have hr : ∀ y ∈ xs, -128 ≤ y ∧ y ≤ 128 := fun y hy => by
      have := litOk_range (List.all_eq_true.1 hv y hy); omega
    have HR := Lib.hid hr
    have HV := Lib.hid hv
    rw [hv] at hp
    clear hv hr
    go_enter Try.func52, Try.ntmps52
    go_wp2_with fail
    refine hp.mono ?_
    rintro e w1 ⟨rfl, hb1⟩
    have hq := order_c (Enc.below _ HX.out hb1) HR.out
    clear hp
    go_wp2_with fail
    refine hq.mono ?_
    rintro e w2 ⟨v2, rfl, hown2, hb2⟩
    have hI2 := hown2.ints (by have := orderL_len xs; have := HL.out; omega)
    have hs := litopposite_c hI2 (fun y hy => HR.out y (mem_orderL.1 hy))
    have HI2 := Lib.hid hI2
    clear hq hown2 hI2
    cases ha : adjOpp (orderL xs)
    all_goals
      rw [ha] at hs
      have HA := Lib.hid ha
      clear ha
      go_wp2_with fail
      refine hs.mono ?_
      rintro e w3 ⟨rfl, hb3⟩
      clear hs
      go_wp2
      go_ret2
    · have HT : termL xs n = some (orderL xs) := by unfold termL; rw [HV.out, HA.out]; rfl
      refine ⟨_, by rw [HT]; rfl, ?_, (hb1.trans (hb2.mono hb1.size)).trans (hb3.mono (Nat.le_trans hb1.size hb2.size))⟩
      rw [HT]
      exact Enc.weak _ (Enc.below _ HI2.out hb3) (fun b e fz _ hf => ⟨Nat.le_trans hb1.size hf.1, hf.2⟩)
    · have HT : termL xs n = none := by unfold termL; rw [HV.out, HA.out]; rfl
      exact ⟨_, by rw [HT]; rfl, by rw [HT]; exact ints_nil _ _, (hb1.trans (hb2.mono hb1.size)).trans (hb3.mono (Nat.le_trans hb1.size hb2.size))⟩
end Go.Proofs.Ytkollnaojpppcaa
