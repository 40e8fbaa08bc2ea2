/- The end of a function that returns rows of its own; no condition. -/
import Derived.Test.YtekeidhndlnghaaOb2
namespace Go.Proofs.Ytekeidhndlnghaa
set_option linter.unusedVariables false
set_option linter.unusedSimpArgs false
set_option linter.unusedSectionVars false
open Go.RowKit
set_option maxRecDepth 100000
theorem objT_key {D : List (List Int)} {k : Nat} {ob : AObj} (hk : lk (objT D) k = some ob) : (k = 0 ∧ ob = ⟨25, 1, refsI 1 D⟩) ∨ ∃ j, j < D.length ∧ k = 1 + j ∧ ob = obI (D.getD j []) := by
  unfold objT at hk
  simp only [lk] at hk
  split at hk
  · rename_i e; cases hk; exact .inl ⟨e.symm, rfl⟩
  · rw [lk_famI] at hk
    split at hk
    · rename_i hc; cases hk
      exact .inr ⟨k - 1, by omega, by omega, rfl⟩
    · cases hk
theorem post_T {TT : TTab} {fn : Func} {N : Int} {D : List (List Int)} {o b : Nat} {e : Exit} {σ : AS} {rs : List ResultVar} (he : e = .normal ∨ e = .ret) (hr : fn.results.toList = rs) (h1 : retA TT σ rs = some (.tup [.agg [.v (.int .i64 N), .ref o 0 D.length], .v (.int .i64 0)]))
    (ho : lk σ.objs o = some ⟨25, 1, refsI b D⟩) (hf : ∀ j, j < D.length → lk σ.objs (b + j) = some (obI (D.getD j []))) (hob : o < b) : PostO TT fn (resT N D) (objT D) e σ := by
  refine post_obj he hr h1 (fun k => if k = 0 then o else b + (k - 1)) (by simp [resT, AV.ren, renL]) (fun k ob hk => ?_) (fun k ob k' ob' hk hk' e => ?_)
  · rcases objT_key hk with ⟨rfl, rfl⟩ | ⟨j, hj, rfl, rfl⟩
    · rw [if_pos rfl, ho]
      dsimp only
      rw [ren_refsI (fun k => if k = 0 then o else b + (k - 1)) 1 b D D rfl (fun j _ => by rw [if_neg (by omega), show 1 + j - 1 = j by omega]) (fun _ _ => rfl)]
    · rw [if_neg (by omega), show 1 + j - 1 = j by omega, hf j hj]
      simp [obI]
  · replace e : (if k = 0 then o else b + (k - 1)) = if k' = 0 then o else b + (k' - 1) := e
    rcases objT_key hk with ⟨rfl, _⟩ | ⟨j, hj, rfl, _⟩ <;> rcases objT_key hk' with ⟨rfl, _⟩ | ⟨i, hi, rfl, _⟩
    · rfl
    · rw [if_pos rfl, if_neg (by omega)] at e; omega
    · rw [if_pos rfl, if_neg (by omega)] at e; omega
    · rw [if_neg (by omega), if_neg (by omega)] at e; omega
end Go.Proofs.Ytekeidhndlnghaa
