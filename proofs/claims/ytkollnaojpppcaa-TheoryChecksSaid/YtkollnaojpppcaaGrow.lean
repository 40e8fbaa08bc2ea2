/- Worlds that have grown, as a class of worlds for regions that leave their order open; plain lemmas over any program; no condition. -/
import Derived.Test.YtkollnaojpppcaaVars2
import Derived.BigQuiet
import Derived.Deep.QuietTactic
import Derived.Deep.RegionHeld3
namespace Go.Proofs.Ytkollnaojpppcaa
open Go.RowKit

/-- New blocks, and the count of draws. -/
structure Grow where
  objs : Array Obj
  drawn : Nat
instance : Inhabited Grow := ⟨⟨#[], 0⟩⟩

/-- The world after it has grown: blocks behind the old ones, another count of draws. -/
def plus (W : World) (g : Grow) : World := { W with heap := W.heap ++ g.objs, drawn := g.drawn }

theorem plus_heap (W : World) (g : Grow) (k : Nat) (h : k < W.heap.size) : (plus W g).heap[k]? = W.heap[k]? := by
  show (W.heap ++ g.objs)[k]? = _
  rw [Array.getElem?_append_left h]
theorem below_plus (W : World) (g : Grow) : Below W.heap.size W (plus W g) := ⟨rfl, rfl, rfl, by simp [plus], fun k hk => plus_heap W g k hk⟩
theorem plus_of_below {W w' : World} (h : Below W.heap.size W w') : ∃ g, w' = plus W g := by
  refine ⟨⟨w'.heap.extract W.heap.size w'.heap.size, w'.drawn⟩, ?_⟩
  cases w' with
  | mk heap tape drawn os output =>
    obtain ⟨h1, h2, h3, h4, h5⟩ := h
    simp only at h1 h2 h3 h4 h5
    subst h1 h2 h3
    simp only [plus, World.mk.injEq, and_true, true_and]
    apply Array.ext'
    apply List.ext_getElem?
    intro k
    simp only [Array.getElem?_toList]
    by_cases hk : k < W.heap.size
    · rw [h5 k hk, Array.getElem?_append_left hk]
    · rw [Array.getElem?_append_right (by omega)]
      simp only [Array.getElem?_extract]
      by_cases hk2 : k < heap.size
      · rw [if_pos (by omega)]; congr 1; omega
      · rw [if_neg (by omega), Array.getElem?_eq_none (by omega)]
theorem cell_plus {W : World} {b o : Nat} {v : Value} (h : W.cell? ⟨b, o, none⟩ = some v) (g : Grow) : (plus W g).cell? ⟨b, o, none⟩ = some v := by
  rw [(below_plus W g).cell (p := ⟨b, o, none⟩) (World.block_lt_of_cell? W _ h)]; exact h
theorem plus_plus (W : World) (g k : Grow) : ∃ l, plus (plus W g) k = plus W l := plus_of_below ((below_plus W g).trans ((below_plus _ k).mono (below_plus W g).size))

/-- A callee's contract in a grown world: what it returns is one value. -/
theorem Calls.grow_of {P : Program} {f : FuncId} {args : Array Value} {w : World} {g : Grow} {v : Value}
    (h : Calls P f args (plus w g) fun e w' => e = .returned v ∧ Below (plus w g).heap.size (plus w g) w') : Calls P f args (plus w g) fun e w'' => e = .returned v ∧ ∃ k, w'' = plus w k :=
  h.mono fun _ _ ⟨he, hb⟩ => ⟨he, plus_of_below ((below_plus w g).trans (hb.mono (below_plus w g).size))⟩

/-- One walk of the text's order serves every order, where every callee only makes new memory and returns one value. -/
theorem wp_region_grow_lit {P : Program} {id : Nat} {Q : Exit → Act → World → Prop} {a : Act} {w : World} {l : List Oper} (hm : P.follows .mixedOrders = true) (hB : Region.lexB .any l.toArray = true)
    (h : wpQuiet P l.toArray (fun w' => ∃ g, w' = plus w g) (fun a' => ∀ w', (∃ g, w' = plus w g) → Q .normal a' w') l a) : (Code.region id l.toArray true).wp P Q a w :=
  wp_region_quiet (C := fun w' => ∃ g, w' = plus w g) hm hB (plus_of_below ⟨rfl, rfl, rfl, Nat.le_refl _, fun _ _ => rfl⟩) (by simpa using h)
end Go.Proofs.Ytkollnaojpppcaa
