/- Both caches, a call and the copy of its key; no condition. -/
import Derived.Test.YtafikekndefjcaaDoorSc17
namespace Go.Proofs.YtafikekndefjcaaDoor
set_option linter.unusedVariables false
set_option linter.unusedSimpArgs false
set_option linter.unusedSectionVars false
open Go.RowKit
set_option maxRecDepth 100000
structure CcM (most : Int) (y b : Nat) (key : List Int) (row : AObj) (e1 e2 : List (List Int × Int)) (O : List (Nat × AObj)) (I : List Nat) (nm : Nat → Nat) (L : AV) (bd : Nat) : Prop where
  cc : CcI most e1 e2 O I nm L bd
  ly : lk O y = some (u8O key)
  lb : lk O b = some row
  oy : OutC 3 1 nm e1.length y
  ob : OutC 3 1 nm e1.length b
  y5 : y ≠ 5
  b5 : b ≠ 5
  yL : ∀ r off n, L = .ref r off n → y ≠ r
  yI : y ∈ I
  bI : b ∈ I
variable {most : Int} {y b : Nat} {key : List Int} {row : AObj} {e1 e2 : List (List Int × Int)} {O O1 : List (Nat × AObj)} {I I1 : List Nat} {nm nm' : Nat → Nat} {L : AV} {bd b2 : Nat}
theorem CcM.put {x : Nat} {e' : List (List Int × Int)} (h : CcM most y b key row e1 e2 O I nm L bd) (hx : bd ≤ x) (h1 : CacheAt O1 (x :: I) 3 1 nm' most e') (h2 : ∀ j, j ≤ e'.length → nm' j = x ∨ ∃ t, t ≤ e1.length ∧ nm' j = nm t)
    (h3 : ∀ q, OutC 3 1 nm e1.length q → q ≠ x → lk O1 q = lk O q) : CcM most y b key row e' e2 O1 (x :: I) nm' L (x + 1) := by
  have hy := h.cc.hi y h.yI
  have hb := h.cc.hi b h.bI
  have ho : ∀ q, OutC 3 1 nm e1.length q → q < bd → OutC 3 1 nm' e'.length q := fun q hq hlt => ⟨hq.1, hq.2.1, fun t ht e => by
    rcases h2 t ht with e2 | ⟨u, u1, u2⟩
    · omega
    · exact hq.2.2 u u1 (e.trans u2)⟩
  exact ⟨h.cc.put hx h1 h2 h3, by rw [h3 y h.oy (by omega)]; exact h.ly, by rw [h3 b h.ob (by omega)]; exact h.lb, ho y h.oy hy, ho b h.ob hb, h.y5, h.b5, h.yL, List.mem_cons_of_mem _ h.yI, List.mem_cons_of_mem _ h.bI⟩
theorem CcM.rput {z n : Nat} {e' : List (List Int × Int)} (h : CcM most y b key row e1 e2 O I nm L bd) (hz : bd ≤ z) (h1 : RefAt O1 I1 5 (.ref z 0 n) most e') (h2 : ∀ q ∈ I1, q < b2) (h3 : ∀ q ∈ I, q ∈ I1) (h4 : ∀ q, q < bd → q ≠ 5 → lk O1 q = lk O q) : CcM most y b key row e1 e' O1 I1 nm (.ref z 0 n) b2 := by
  have hy := h.cc.hi y h.yI
  have hb := h.cc.hi b h.bI
  exact ⟨h.cc.rput hz h1 h2 h3 h4, by rw [h4 y hy h.y5]; exact h.ly, by rw [h4 b hb h.b5]; exact h.lb, h.oy, h.ob, h.y5, h.b5, fun r off n hr => by cases hr; omega, h3 _ h.yI, h3 _ h.bI⟩
theorem CcM.bytes {key' : List Int} (h : CcM most y b key row e1 e2 O I nm L bd) (hyb : y ≠ b) : CcM most y b key' row e1 e2 (st O y (u8O key')) I nm L bd :=
  ⟨h.cc.other h.oy h.y5 h.yL fun q hq => by rw [lk_st, if_neg (Ne.symm hq)], by rw [lk_st, if_pos rfl], by rw [lk_st, if_neg hyb]; exact h.lb, h.oy, h.ob, h.y5, h.b5, h.yL, h.yI, h.bI⟩
end Go.Proofs.YtafikekndefjcaaDoor
