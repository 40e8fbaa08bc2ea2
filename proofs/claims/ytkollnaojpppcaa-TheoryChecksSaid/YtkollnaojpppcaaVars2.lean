/- Contracts of package vars, the second part: loops; no condition. -/
import Derived.Test.YtkollnaojpppcaaVars
namespace Go.Proofs.Ytkollnaojpppcaa
open Go.RowKit

/-- A variable of two cells in memory. -/
structure Two (w : World) (b : Nat) (e : TypeId) (x y : Value) : Prop where
  block : w.heap[b]? = some (.cells #[x, y] e (0, 0))

theorem Two.lt {w : World} {b : Nat} {e : TypeId} {x y : Value} (h : Two w b e x y) : b < w.heap.size := (Array.getElem?_eq_some_iff.1 h.block).1
theorem Two.c0 {w : World} {b : Nat} {e : TypeId} {x y : Value} (h : Two w b e x y) : w.cell? ⟨b, 0, none⟩ = some x := by simp [World.cell?, h.block]
theorem Two.c1 {w : World} {b : Nat} {e : TypeId} {x y : Value} (h : Two w b e x y) : w.cell? ⟨b, 1, none⟩ = some y := by simp [World.cell?, h.block]
theorem Two.f {w : World} {b : Nat} {e : TypeId} {x y : Value} (h : Two w b e x y) (o : Nat) : w.frozen? ⟨b, o, none⟩ = false := by
  simp [World.frozen?, h.block]
theorem Two.below {w w' : World} {b : Nat} {e : TypeId} {x y : Value} {B : Nat} (h : Two w b e x y) (k : Below B w w') (hb : b < B) : Two w' b e x y := ⟨by rw [k.block b hb]; exact h.block⟩
theorem Two.set {w : World} {b : Nat} {e : TypeId} {x y : Value} (h : Two w b e x y) (x' y' : Value) : Two ((w.setCell ⟨b, 0, none⟩ x').setCell ⟨b, 1, none⟩ y') b e x' y' := by
  constructor
  simp [World.setCell, h.block, Array.getElem?_modify]
theorem Two.other {w : World} {b : Nat} {e : TypeId} {x y : Value} (h : Two w b e x y) (a : Addr) (hne : b ≠ a.block) (u : Value) : Two (w.setCell a u) b e x y :=
  ⟨by rw [Below.heap_setCell _ _ _ _ hne]; exact h.block⟩
theorem Two.new (w : World) (e : TypeId) (x y : Value) : Two (w.alloc (.cells #[x, y] e)) w.heap.size e x y := ⟨heap_alloc_new w _⟩
theorem Two.alloc {w : World} {b : Nat} {e : TypeId} {x y : Value} (h : Two w b e x y) (o : Obj) : Two (w.alloc o) b e x y := ⟨by rw [Below.heap_alloc _ _ _ h.lt]; exact h.block⟩

theorem sAll_succ (n : Int) (h : 1 ≤ n) : sWith (sAll (n - 1)) n = sAll n := by
  apply sets_ext
  intro u h1 h2
  rw [sHas_with, sHas_all, sHas_all, Bool.eq_iff_iff]
  simp only [Bool.or_eq_true, decide_eq_true_eq]
  omega
theorem sAll_zero (n : Int) (h : n ≤ 0) : sAll n = 0#128 := by
  apply sets_ext
  intro u h1 h2
  rw [sHas_all, sHas_zero]
  simp; omega
theorem sAll_max (n : Int) (h : 128 ≤ n) : sAll n = sAll 128 := by
  apply sets_ext
  intro u h1 h2
  rw [sHas_all, sHas_all, Bool.eq_iff_iff]
  simp only [decide_eq_true_eq]; omega

set_option maxHeartbeats 400000 in
theorem all_c (n : Int) (w : World) : Calls Try.prog 48 #[.int .i64 n] w (Gives w (SV (sAll n))) := by
  go_enter Try.func48, Try.ntmps48
  go_wp2
  go_loopw [4] (fun i wr => ∃ k : Int, 1 ≤ k ∧ k ≤ 129 ∧ i = .int .i64 k ∧ Hid (k - 1 ≤ n ∨ k = 1) ∧ Two wr (w.heap.size + 1) 36 (WV (lo (sAll (k - 1)))) (WV (hi (sAll (k - 1)))) ∧ Two wr w.heap.size 36 (WV 0) (WV 0) ∧ Below w.heap.size w wr) (fun i _ => (129 - intOf i).toNat)
  case atStart =>
    refine ⟨1, by omega, by omega, rfl, .inr rfl, ?_, (Two.new w _ _ _).alloc _, below2 _ _ _⟩
    have := Two.new (w.alloc (Obj.cells #[Value.int IntKind.u64 0, Value.int IntKind.u64 0] 36)) 36 (WV 0) (WV 0)
    rw [show (1 : Int) - 1 = 0 from rfl, sAll_zero 0 (by omega), show lo 0#128 = 0 by decide, show hi 0#128 = 0 by decide]
    rw [show w.heap.size + 1 = (w.alloc (Obj.cells #[Value.int IntKind.u64 0, Value.int IntKind.u64 0] 36)).heap.size by simp]
    exact this
  case round =>
    obtain ⟨k, hk1, hk2, rfl, hk3, hv, hr, hb⟩ := hrel
    have l1 := hv.lt
    have g0 := hv.c0
    have g1 := hv.c1
    have r0 := hr.c0
    have r1 := hr.c1
    have rf0 := hr.f 0
    have rf1 := hr.f 1
    by_cases hlt : k ≤ 128 ∧ k ≤ n
    · obtain ⟨hlt1, hlt2⟩ := hlt
      have hp : ∀ W, Calls Try.prog 56 #[.agg #[WV (lo (sAll (k - 1))), WV (hi (sAll (k - 1)))], .int .i64 k] W (fun e w' => e = .returned (.agg #[WV (lo (sAll k)), WV (hi (sAll k))]) ∧ Below W.heap.size W w') := fun W => by
        have := with_c (sAll (k - 1)) k W
        rw [sAll_succ k hk1] at this
        exact this
      clear r0 r1 rf0 rf1
      by_cases hn : n ≤ 128
      all_goals
       go_wp2_with fail
       refine (hp _).mono ?_
       rintro e w1 ⟨rfl, hb1⟩
       have hv1 := hv.below hb1 l1
       have hr1 := hr.below hb1 hr.lt
       have l2 := hv1.lt
       have c0 := hv1.c0
       have c1 := hv1.c1
       have f0 := hv1.f 0
       have f1 := hv1.f 1
       clear g0 g1 hv
       go_wp2
       go_roundw
       case rel => exact ⟨k + 1, by omega, by omega, rfl, .inl (by omega), by rw [show k + 1 - 1 = k by omega]; exact hv1.set _ _, (hr1.other _ (by simp) _).other _ (by simp) _, ((hb.trans (hb1.mono hb.size)).setCell (by simp) _).setCell (by simp) _⟩
       case measure => simp [intOf]; omega
    · have hfin : sAll (k - 1) = sAll n := by
        have := hk3.out
        by_cases hn : n ≤ 128
        · by_cases h0 : n ≤ 0
          · rw [sAll_zero (k - 1) (by omega), sAll_zero n h0]
          · rw [show k - 1 = n by omega]
        · rw [show k - 1 = 128 by omega, sAll_max n (by omega)]
      have HF := Lib.hid hfin
      have q := hr.set (WV (lo (sAll (k - 1)))) (WV (hi (sAll (k - 1))))
      have q0 := q.c0
      have q1 := q.c1
      clear hfin q
      by_cases hlt1 : k ≤ 128
      · have hlt2 : n < k := by omega
        clear hlt
        go_wp2
        exact bodyPost_ret (v := .agg #[WV (lo (sAll (k - 1))), WV (hi (sAll (k - 1)))]) (by simp [results, Try.results48, go_sem, q0, q1]) rfl ⟨by rw [HF.out], (hb.setCell (by simp) _).setCell (by simp) _⟩
      · have hlt2 : 128 < k := by omega
        clear hlt
        go_wp2
        all_goals exact bodyPost_ret (v := .agg #[WV (lo (sAll (k - 1))), WV (hi (sAll (k - 1)))]) (by simp [results, Try.results48, go_sem, q0, q1]) rfl ⟨by rw [HF.out], (hb.setCell (by simp) _).setCell (by simp) _⟩
end Go.Proofs.Ytkollnaojpppcaa
