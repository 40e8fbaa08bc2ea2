/- What is computed node by node, in place (plain); no condition. -/
import Derived.Test.YtecdhmiamlgibaaDoorVo39
import Derived.Test.YtecdhmiamlgibaaDoorRz39
namespace Go.Proofs.YtecdhmiamlgibaaDoor
set_option linter.unusedVariables false
set_option linter.unusedSimpArgs false
set_option linter.unusedSectionVars false
open Go.RowKit
set_option maxRecDepth 100000
section
variable {α : Type}
theorem getD_set_eq {l : List α} {k : Nat} {a d : α} (h : k < l.length) : (l.set k a).getD k d = a := by simp [List.getD, h]
theorem getD_set_ne {l : List α} {k j : Nat} {a d : α} (h : k ≠ j) : (l.set k a).getD j d = l.getD j d := by simp [List.getD, List.getElem?_set_ne h]
theorem ext_getD {l m : List α} (d : α) (h : l.length = m.length) (he : ∀ i, i < m.length → l.getD i d = m.getD i d) : l = m := by
  apply List.ext_getElem h
  intro i h1 h2
  have := he i h2
  simpa [List.getD, h1, h2] using this
def InOnly (f : Nd → List α → α) (d : α) : Prop := ∀ x out out', (∀ k ∈ x.2.2, out.getD k.toNat d = out'.getD k.toNat d) → f x out = f x out'
theorem scanN_fix {f : Nd → List α → α} {d : α} (hf : InOnly f d) {N : Int} {ns : List Nd} (h : validN N ns = true) {i : Nat} (hi : i < ns.length) : (scanN f ns).getD i d = f (ns.getD i nd0) (scanN f ns) := by
  rw [scanN_get f ns d hi]
  refine hf _ _ _ fun k hk => ?_
  have := form_in (valid_form h hi) hk
  have e := scanN_pre f ns d ns.length i (by omega) (Nat.le_refl _) k.toNat (by omega)
  rw [List.take_length] at e
  exact e.symm
end
theorem foldl_congr' {β : Type} {f g : β → Int → β} : ∀ {xs : List Int} (b : β), (∀ b, ∀ k ∈ xs, f b k = g b k) → xs.foldl f b = xs.foldl g b
  | [], _, _ => rfl
  | x :: r, b, h => by
    rw [List.foldl_cons, List.foldl_cons, h b x (by simp)]
    exact foldl_congr' _ fun b k hk => h b k (by simp [hk])
theorem nodeS_in : InOnly nodeS 0#128 := fun x out out' h => foldl_congr' _ fun b k hk => by rw [h k hk]
theorem nodeV_in (a : BitVec 128) : InOnly (nodeV a) false := fun x out out' h => by
  unfold nodeV
  split
  · rfl
  · split
    · rfl
    · split
      · exact all_congr h
      · split
        · exact any_congr h
        · rfl
theorem nodeW_in (of : Int → BitVec 64) : InOnly (nodeW of) 0#64 := fun x out out' h => by
  unfold nodeW
  exact foldl_congr' _ fun b k hk => by rw [h k hk]
theorem sets_set (l : List (BitVec 128)) (e : Nat) (x : BitVec 128) : (l.map fun s => [AV.v (.int .u64 ((lo s).toNat : Int)), .v (.int .u64 ((hi s).toNat : Int))]).set e [.v (.int .u64 ((lo x).toNat : Int)), .v (.int .u64 ((hi x).toNat : Int))] = (l.set e x).map fun s => [AV.v (.int .u64 ((lo s).toNat : Int)), .v (.int .u64 ((hi s).toNat : Int))] := by
  rw [List.map_set]
theorem sets_rep (n : Nat) : (List.replicate n [AV.v (.int .u64 0), .v (.int .u64 0)]) = (List.replicate n 0#128).map fun s => [AV.v (.int .u64 ((lo s).toNat : Int)), .v (.int .u64 ((hi s).toNat : Int))] := by
  rw [List.map_replicate, words0.1, words0.2]; rfl
theorem vars_fix {N : Int} {ns : List Nd} (h : validN N ns = true) {i : Nat} (hi : i < ns.length) : (varsL ns).getD i 0#128 = accV (ns.getD i nd0) (varsL ns) (ns.getD i nd0).2.2.length := by
  rw [accV_all]; exact scanN_fix nodeS_in h hi
end Go.Proofs.YtecdhmiamlgibaaDoor
