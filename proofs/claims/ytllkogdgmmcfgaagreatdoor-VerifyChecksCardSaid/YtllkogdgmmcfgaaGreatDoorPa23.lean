/- What is known of an accepted proof; plain; no condition. -/
import Derived.Test.YtllkogdgmmcfgaaGreatDoorVvG
namespace Go.Proofs.YtllkogdgmmcfgaaGreatDoor
set_option linter.unusedVariables false
set_option linter.unusedSimpArgs false
set_option linter.unusedSectionVars false
open Go.RowKit
set_option maxRecDepth 100000
theorem cut_perm {is : List Int} {k : Nat} (hk : k < is.length) : is.Perm (is.getD k 0 :: cutI is k) := by
 have e : is.take k ++ (is.getD k 0 :: is.drop (k + 1)) = is := by
  have := List.take_append_drop k is
  rw [List.drop_eq_getElem_cons hk] at this
  simp [List.getD, hk]
 have h := List.perm_middle (a := is.getD k 0) (l₁ := is.take k) (l₂ := is.drop (k + 1))
 rw [e] at h
 exact h
theorem find_at {is : List Int} {p : Int → Bool} {k : Nat} (h : is.findIdx? p = some k) : k < is.length ∧ p (is.getD k 0) = true := by
 obtain ⟨hk, h1, _⟩ := List.findIdx?_eq_some_iff_getElem.1 h
 exact ⟨hk, by simpa [List.getD, hk] using h1⟩
structure AccV (N : Int) (L : List (List Int)) (M : Int) (ns : List Nd) (cl : List Cl) : Prop where
 hz : checkT N L = 0
 hv : validN N ns = true
 hNM : N = M
 hlen : cl.length = ns.length
 hb : ∀ i, i < ns.length → badV N L ns cl i = false
end Go.Proofs.YtllkogdgmmcfgaaGreatDoor
