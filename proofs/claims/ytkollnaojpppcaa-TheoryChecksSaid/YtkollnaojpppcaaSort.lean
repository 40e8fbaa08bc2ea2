/- Contract of slices.SortFunc at literals, through the library's; lit.order, lit.Term; no condition. -/
import Derived.Test.YtkollnaojpppcaaClone
import Derived.Shelf.SlSortCmp.NoneTotal
import Derived.Lib.OwnBridge
namespace Go.Proofs.Ytkollnaojpppcaa
open Go.RowKit Go.Shelf Go.Sort

def sortL_ren : Go.Shelf.Ren := ⟨fun | 6 => 76 | 15 => 65 | 14 => 92 | 28 => 88 | 29 => 89 | 20 => 98 | 21 => 99 | 22 => 100 | 23 => 101 | 24 => 102 | 25 => 103 | 26 => 104 | 27 => 105 | 46 => 107 | 47 => 94 | 48 => 95 | 49 => 108 | 50 => 109 | 57 => 110 | n => n, fun | 22 => 38 | 24 => 3 | 25 => 90 | 3 => 3 | 39 => 43 | 0 => 0 | 53 => 100 | 55 => 34 | 4 => 4 | 46 => 93 | 45 => 92 | 50 => 97 | 5 => 5 | 9 => 9 | 66 => 104 | 70 => 108 | 76 => 115 | 77 => 116 | n => n, fun | n => n⟩
theorem sortL : Go.Proofs.SlLaysF.n6 Try.prog sortL_ren := {
  mixed := by kernel_rfl,
  f6 := ⟨Try.f76.name, by decide, Try.func76.trans (congrArg some (by kernel_rfl))⟩,
  f14 := ⟨Try.f92.name, by decide, Try.func92.trans (congrArg some (by kernel_rfl))⟩,
  f15 := Try.func65.trans (congrArg some (by kernel_rfl)),
  f20 := ⟨Try.f98.name, by decide, Try.func98.trans (congrArg some (by kernel_rfl))⟩,
  f21 := ⟨Try.f99.name, by decide, Try.func99.trans (congrArg some (by kernel_rfl))⟩,
  f22 := ⟨Try.f100.name, by decide, Try.func100.trans (congrArg some (by kernel_rfl))⟩,
  f23 := ⟨Try.f101.name, by decide, Try.func101.trans (congrArg some (by kernel_rfl))⟩,
  f24 := ⟨Try.f102.name, by decide, Try.func102.trans (congrArg some (by kernel_rfl))⟩,
  f25 := ⟨Try.f103.name, by decide, Try.func103.trans (congrArg some (by kernel_rfl))⟩,
  f26 := ⟨Try.f104.name, by decide, Try.func104.trans (congrArg some (by kernel_rfl))⟩,
  f27 := ⟨Try.f105.name, by decide, Try.func105.trans (congrArg some (by kernel_rfl))⟩,
  f28 := Try.func88.trans (congrArg some (by kernel_rfl)),
  f29 := Try.func89.trans (congrArg some (by kernel_rfl)),
  f46 := ⟨Try.f107.name, by decide, Try.func107.trans (congrArg some (by kernel_rfl))⟩,
  f47 := Try.func94.trans (congrArg some (by kernel_rfl)),
  f48 := Try.func95.trans (congrArg some (by kernel_rfl)),
  f49 := ⟨Try.f108.name, by decide, Try.func108.trans (congrArg some (by kernel_rfl))⟩,
  f50 := ⟨Try.f109.name, by decide, Try.func109.trans (congrArg some (by kernel_rfl))⟩,
  f57 := ⟨Try.f110.name, by decide, Try.func110.trans (congrArg some (by kernel_rfl))⟩,
  t0 := Try.underlying0,
  a0 := Try.isAgg0,
  z0 := Try.sizeOf0,
  v0 := Try.zeroValue0,
  t3 := Try.underlying3,
  a3 := Try.isAgg3,
  z3 := Try.sizeOf3,
  v3 := Try.zeroValue3,
  t4 := Try.underlying4,
  a4 := Try.isAgg4,
  z4 := Try.sizeOf4,
  v4 := Try.zeroValue4,
  t5 := Try.underlying5,
  a5 := Try.isAgg5,
  z5 := Try.sizeOf5,
  v5 := Try.zeroValue5,
  t9 := Try.underlying9,
  a9 := Try.isAgg9,
  z9 := Try.sizeOf9,
  v9 := Try.zeroValue9,
  t22 := Try.underlying38,
  a22 := Try.isAgg38,
  z22 := Try.sizeOf38,
  v22 := Try.zeroValue38,
  a24 := Try.isAgg3,
  z24 := Try.sizeOf3,
  t25 := Try.underlying90,
  a25 := Try.isAgg90,
  z25 := Try.sizeOf90,
  v25 := Try.zeroValue90,
  t39 := Try.underlying43,
  a39 := Try.isAgg43,
  z39 := Try.sizeOf43,
  v39 := Try.zeroValue43,
  t45 := Try.underlying92,
  a45 := Try.isAgg92,
  z45 := Try.sizeOf92,
  v45 := Try.zeroValue92,
  t46 := Try.underlying93,
  a46 := Try.isAgg93,
  z46 := Try.sizeOf93,
  v46 := Try.zeroValue93,
  t50 := Try.underlying97,
  a50 := Try.isAgg97,
  z50 := Try.sizeOf97,
  v50 := Try.zeroValue97,
  t53 := Try.underlying100,
  a53 := Try.isAgg100,
  z53 := Try.sizeOf100,
  v53 := Try.zeroValue100,
  t55 := Try.underlying34,
  a55 := Try.isAgg34,
  z55 := Try.sizeOf34,
  v55 := Try.zeroValue34,
  t66 := Try.underlying104,
  a66 := Try.isAgg104,
  z66 := Try.sizeOf104,
  v66 := Try.zeroValue104,
  t70 := Try.underlying108,
  a70 := Try.isAgg108,
  z70 := Try.sizeOf108,
  v70 := Try.zeroValue108,
  t76 := Try.underlying115,
  a76 := Try.isAgg115,
  z76 := Try.sizeOf115,
  v76 := Try.zeroValue115,
  t77 := Try.underlying116,
  a77 := Try.isAgg116,
  z77 := Try.sizeOf116,
  v77 := Try.zeroValue116 }


/-- A number from -128 to 128. -/
abbrev Small := { x : Int // -128 ≤ x ∧ x ≤ 128 }
instance : Inhabited Small := ⟨⟨0, by omega⟩⟩
def encS (x : Small) : Value := .int .i64 x.1
def cmpS (x y : Small) : Int := cmpLit x.1 y.1
/-- Literals in order. -/
def litLe (x y : Int) : Bool := !decide (cmpLit y x < 0)
def sortLits (xs : List Int) : List Int := xs.mergeSort litLe

theorem cmpLit_lt (x y : Int) : cmpLit x y < 0 ↔ litVar x < litVar y ∨ (litVar x = litVar y ∧ x < y) := by
  unfold cmpLit; split <;> omega

theorem ltS (x y : Small) : ltOf cmpS x y = decide (litVar x.1 < litVar y.1 ∨ (litVar x.1 = litVar y.1 ∧ x.1 < y.1)) := by
  show decide (cmpLit x.1 y.1 < 0) = _
  rw [Bool.eq_iff_iff, decide_eq_true_iff, decide_eq_true_iff]
  exact cmpLit_lt _ _
theorem swoS : SWO (ltOf cmpS) where
  irrefl x := by rw [ltS]; simp
  trans x y z h1 h2 := by rw [ltS, decide_eq_true_iff] at *; omega
  ntrans x y z h1 h2 := by rw [ltS, decide_eq_false_iff_not] at *; omega
theorem totS (x y : Small) (h1 : ltOf cmpS x y = false) (h2 : ltOf cmpS y x = false) : x = y := by
  rw [ltS, decide_eq_false_iff_not] at h1 h2; apply Subtype.ext; omega

theorem smalls (xs : List Int) (h : ∀ y ∈ xs, -128 ≤ y ∧ y ≤ 128) : ∃ ys : List Small, ys.map Subtype.val = xs := by
  induction xs with
  | nil => exact ⟨[], rfl⟩
  | cons x r ih =>
    obtain ⟨ys, hy⟩ := ih (fun y hy => h y (by simp [hy]))
    exact ⟨⟨x, h x (by simp)⟩ :: ys, by simp [hy]⟩

theorem sort_smalls (ys : List Small) : ((ys.mergeSort fun x y => !(ltOf cmpS) y x).map Subtype.val) = sortLits (ys.map Subtype.val) := by
  unfold sortLits
  rw [List.map_mergeSort (s := litLe)]
  intro a _ b _
  rfl

set_option maxHeartbeats 400000 in
theorem orderFn_c (x y : Int) (W : World) (hx : -128 ≤ x ∧ x ≤ 128) (hy : -128 ≤ y ∧ y ≤ 128) :
    Calls Try.prog 77 #[.int .i64 x, .int .i64 y] W fun e w' => e = .returned (.int .i64 (cmpLit x y)) ∧ W = w' := by
  have hp := fun w => litCompare_c x y w hx.1 hx.2 hy.1 hy.2
  generalize cmpLit x y = t at *
  clear hx hy
  go_enter Try.func77, Try.ntmps77
  go_wp2_with (go_at_call 78; refine (hp _).mono ?_; rintro e w' ⟨rfl, rfl⟩)
  go_ret
  exact ⟨rfl, rfl⟩

theorem cmpLays (blk off size : Nat) (w : World) : CmpLays1 Try.prog 77 #[] encS cmpS blk off size w := fun m os dk _ x y =>
  (orderFn_c x.1 y.1 _ x.2 y.2).mono fun e w' ⟨he, hw⟩ => ⟨he, 0, #[], by rw [grow_empty]; exact hw.symm⟩

theorem grownBy_sort {w : World} {g q : Nat} {d : Array Small} {os : Array Obj} : w.grownBy (grow (putRow encS (Sort.ahead w q) g 0 d) os) (some g) := by
  refine ⟨rfl, rfl, rfl, by simp [grow, putRow, mapBlock, Sort.ahead], fun k hk hne => ?_⟩
  have hk' : k < (putRow encS (Sort.ahead w q) g 0 d).heap.size := by simpa [putRow, mapBlock, Sort.ahead] using hk
  show ((putRow encS (Sort.ahead w q) g 0 d).heap ++ os)[k]? = _
  rw [Array.getElem?_append_left hk']
  simp [putRow, mapBlock, Sort.ahead, Array.getElem?_modify, show g ≠ k by intro e; subst e; exact hne rfl]

theorem grownBy_grow (w : World) (os : Array Obj) : w.grownBy (grow w os) none :=
  ⟨rfl, rfl, rfl, by simp [grow], fun k hk _ => by show (w.heap ++ os)[k]? = _; rw [Array.getElem?_append_left hk]⟩

/-- SortFunc over literals, on a slice of the call's own. -/
theorem sortLits_c {F : Foot} {w : World} {B : Nat} {v : Value} {xs : List Int} (h : OwnL eInt F w B 3 v xs) (hr : ∀ y ∈ xs, -128 ≤ y ∧ y ≤ 128) (hl : xs.length ≤ LenMax) :
    Calls Try.prog 76 #[v, .func (.func 77) #[] #[]] w fun e w' => e = .returned (.tuple #[]) ∧ OwnL eInt F w' B 3 v (sortLits xs) ∧ w.grownBy w' v.ownBlock := by
  obtain ⟨g1, g2⟩ := OwnL.int_iff.1 h
  by_cases h0 : xs = []
  · subst h0
    have hv : ∃ a c, v = .slice a 0 c := by
      rcases g1.2 with ⟨rfl, _⟩ | ⟨g, cap, cur, rfl, _⟩
      · exact ⟨_, _, rfl⟩
      · exact ⟨_, _, rfl⟩
    obtain ⟨a, c, rfl⟩ := hv
    have hS := AnyF.slices_SortFunc_none (P := Try.prog) (ρ := sortL_ren) { sortL with } a c (.func (.func 77) #[] #[]) w
    change Calls Try.prog 76 _ _ _ at hS
    exact hS.mono fun e w' ⟨he, hw⟩ => ⟨he, by subst hw; simpa [sortLits] using h, by subst hw; exact World.grownBy.refl _ _⟩
  · have hv : v ≠ .slice none 0 0 := by
      intro e; subst e
      rcases g1.2 with ⟨_, e0⟩ | ⟨g, cap, cur, e0, _⟩
      · exact h0 (List.eq_nil_of_length_eq_zero e0)
      · cases e0
    obtain ⟨ys, rfl⟩ := smalls xs hr
    have e1 : (ys.map Subtype.val).map (Value.int .i64) = ys.map encS := by rw [List.map_map]; rfl
    rw [e1, List.length_map] at g1
    obtain ⟨g, cap, rfl, hb, hlt, hnc, hcm, hlen, hH⟩ := Lib.holds_of_ownsRow g1 hv
    have eg : ∀ args w, (callFunc 77 args).run Try.prog w = .ok (.enter 77 args) w := enters_fn Try.func77 (by kernel_rfl) rfl
    have hS := Any.slices_SortFunc_total sortL encS (fun _ => rfl) cmpS swoS 77 #[] g 0 cap ys.toArray w eg (cmpLays _ _ _ _) hH hlt (by simp at hl ⊢; unfold LenMax at hl; omega) totS
    change Calls Try.prog 76 _ _ _ at hS
    rw [List.size_toArray] at hS
    refine hS.mono fun e w' ⟨he, q, os, hw⟩ => ⟨he, ?_, ?_⟩
    · subst hw
      rw [OwnL.int_iff]
      have hp : (ys.mergeSort fun x y => !(ltOf cmpS) y x).length = ys.length := List.length_mergeSort _
      have h5 := Lib.ownsRow_putRow (q := q) (k := ys.length) g1 hp (Nat.le_refl _)
      rw [List.take_of_length_le (by omega)] at h5
      have h6 := h5.kept (grownBy_grow _ os) (.inr (by simp [Value.ownBlock]))
      refine ⟨?_, ?_⟩
      · rw [← sort_smalls, List.map_map, List.length_map, hp]
        exact h6
      · intro y hy
        unfold sortLits at hy
        rw [List.mem_mergeSort] at hy
        exact g2 y hy
    · subst hw
      exact grownBy_sort
end Go.Proofs.Ytkollnaojpppcaa
