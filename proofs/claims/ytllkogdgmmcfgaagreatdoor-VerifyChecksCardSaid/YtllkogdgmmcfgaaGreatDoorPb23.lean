/- The shape of a net that is accepted; plain; no condition. -/
import Derived.Test.YtllkogdgmmcfgaaGreatDoorPa23
namespace Go.Proofs.YtllkogdgmmcfgaaGreatDoor
set_option linter.unusedVariables false
set_option linter.unusedSimpArgs false
set_option linter.unusedSectionVars false
open Go.RowKit
set_option maxRecDepth 100000
def varI (ns : List Nd) (i : Int) : BitVec 128 := (varsL ns).getD i.toNat 0#128
def SubV (ns : List Nd) (i : Int) (R : List (List Int)) : Prop := ∀ v, sHas (varI ns i) v = true → sHas (varsT R) v = true
def DisI (ns : List Nd) (i j : Int) : Prop := ∀ v, sHas (varI ns i) v = true → sHas (varI ns j) v = true → False
theorem gv_vars {N : Int} {R : List (List Int)} (hz : checkT N R = 0) {l v : Int} (hl : litOk l N = true) (h : sHas (varsT (gvV R l)) v = true) : sHas (varsT R) v = true ∧ v ≠ litVar l := by
 rw [sHas_varsT] at h
 obtain ⟨h1, c, hc, x, hx, h2⟩ := h
 unfold gvV at hc
 obtain ⟨d, hd, _, rfl⟩ := (normL_mem (givenT_check hz [l]) c).1 hc
 have hx := (mem_sortK.1 hx).1
 obtain ⟨c0, hc0, ho, rfl⟩ := givenT_mem.1 hd
 obtain ⟨hx0, hx1⟩ := List.mem_filter.1 hx
 refine ⟨(sHas_varsT _ _).2 ⟨h1, c0, hc0, x, hx0, h2⟩, fun e => ?_⟩
 have hxo := ((checkT_ok hz).2.2.2 c0 hc0).2 x hx0
 have a1 := litVar_abs hxo
 have a2 := litVar_abs hl
 unfold openC at ho
 rw [Bool.not_eq_true', List.any_eq_false] at ho
 have b1 := ho x hx0
 simp only [List.mem_singleton, decide_eq_true_eq] at b1
 simp only [List.mem_singleton, Bool.not_eq_true', decide_eq_false_iff_not] at hx1
 omega
theorem cmpC_nil {a b : List Int} (h : clLt a b) : b ≠ [] := fun e => by
 subst e
 have h2 := h.2
 unfold cmpC at h2
 split at h2
 ·rename_i h3
  obtain rfl := List.eq_nil_of_length_eq_zero h3
  simp [cmpG] at h2
 ·simp at h2; omega
theorem norm_nil {N : Int} {A : List (List Int)} (hz : checkT N A = 0) (h : [] ∈ normL A) : normL A = [] :: (normL A).drop 1 ∧ [] ∉ (normL A).drop 1 := by
 have hs := normL_strict hz
 generalize normL A = X at h hs ⊢
 match X, h, hs with
 | a :: r, h, hs =>
  have h2 : ∀ c ∈ r, c ≠ [] := fun c hc => cmpC_nil (List.rel_of_pairwise_cons hs hc)
  rcases List.mem_cons.1 h with e | e
  ·exact ⟨by rw [← e]; rfl, fun hn => h2 _ hn rfl⟩
  ·exact absurd rfl (h2 _ e)
def InV (N : Int) (L : List (List Int)) (ns : List Nd) (cl : List Cl) (is : List Int) : Prop := ∀ i ∈ is, kindN ns i ≠ 2 → ∀ x, rsV L N (clN cl i) = some x → SubV ns i x
def litB (ns : List Nd) (i l : Int) : Bool := if kindN ns i = 2 then decide (litN ns i = l) else (decide (kindN ns i = 3) && (inN ns i).any (litI ns l))
def decL (ns : List Nd) (i : Int) (v : Int) : Bool := (litB ns ((inN ns i).getD 0 0) v && litB ns ((inN ns i).getD 1 0) (-v)) || (litB ns ((inN ns i).getD 0 0) (-v) && litB ns ((inN ns i).getD 1 0) v)
end Go.Proofs.YtllkogdgmmcfgaaGreatDoor
