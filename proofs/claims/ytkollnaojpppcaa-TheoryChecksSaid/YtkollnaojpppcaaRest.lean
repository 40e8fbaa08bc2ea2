/- Contracts of censusref16.has, Left, Rest and parts.rest; no condition. -/
import Derived.Test.YtkollnaojpppcaaOwn
namespace Go.Proofs.Ytkollnaojpppcaa
open Go.RowKit

theorem infoInt : (Try.prog.info? 3).map (fun i => (i.zero, i.size, i.bytes)) = some (some (.int .i64 0), 1, 8) := by kernel_rfl

theorem ints_nil (F : Foot) (w : World) : Ints F w (.slice none 0 0) [] := ⟨none, 0, 0, rfl, rfl, Nat.le_refl _, by simp, fun _ => rfl, fun i hi => by simp at hi⟩
/-- It returns a new slice that reads so. -/
def GivesInts (w : World) (r : List Int) (e : Ending) (w' : World) : Prop := ∃ v, e = .returned v ∧ Ints (Fresh w.heap.size) w' v r ∧ Below w.heap.size w w'

theorem OwnL.ints {F : Foot} {w : World} {B : Nat} {t : TypeId} {v : Value} {xs : List Int} (h : OwnL eInt F w B t v xs) (hl : xs.length ≤ LenMax) : Ints (Fresh B) w v xs := by
  obtain ⟨raw, g1, g2, g3⟩ := h
  exact OwnL.reads (F := Fresh B) ⟨raw, g1, g2, fun i h1 h2 => g3 i h1 h2⟩ (by unfold LenMax at hl; simp only [eInt]; omega) (Fresh B) (fun _ _ _ h => h) (fun b e h => ⟨h, rfl⟩)

theorem oneInt (y : Int) : ∀ u ∈ [Value.int IntKind.i64 y], u.oneCell' = true := by intro u hu; simp at hu; subst hu; rfl


/-- A clause is left, given a term: none of its literals is in the term. -/
def leftL (c t : List Int) : Bool := c.all fun l => !decide (l ∈ t)
/-- What is left of a clause. -/
def restL (c t : List Int) : List Int := c.filter fun l => decide (-l ∉ t)

theorem restL_snoc (c t : List Int) (l : Int) : restL (c ++ [l]) t = if -l ∈ t then restL c t else restL c t ++ [l] := by
  unfold restL
  rw [List.filter_append]
  by_cases h : -l ∈ t <;> simp [h]
theorem restL_len (c t : List Int) : (restL c t).length ≤ c.length := List.length_filter_le _ _



end Go.Proofs.Ytkollnaojpppcaa
