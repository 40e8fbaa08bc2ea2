/- An abstract machine for the text, part three: what an operation yields; operations that only read; plain lemmas over any program; no condition. -/
import Derived.Test.YtkollnaojpppcaaAm2
import Derived.ChangeKeysEq
namespace Go.Proofs.Ytkollnaojpppcaa
open Go.RowKit

/-! ### Values -/
section vals
variable {G : Gh}
theorem Rv.v_eq {x u : Value} (h : Rv G (.v x) u) : u = x := by cases h; rfl
/-- It is one cell. -/
def AV.cell : AV → Bool
  | .v x => x.oneCell'
  | .sl _ _ => true
  | .pt _ => true
  | .ref _ _ _ => true
  | .ptr _ _ _ => true
  | .clo _ _ => true
  | _ => false
def AV.cells : AV → List AV
  | .agg cs => cs
  | a => [a]
/-- It may be stored. -/
def AV.flat : AV → Bool
  | .agg _ => true
  | a => a.cell
theorem Rv.one {a : AV} {u : Value} (h : Rv G a u) (hc : a.cell = true) : u.oneCell' = true := by
  cases h <;> first | rfl | exact hc | (simp [AV.cell] at hc)
/-- What is stored: cell by cell. -/
theorem Rv.stored {a : AV} {u : Value} (h : Rv G a u) (hc : a.flat = true) : u.cells.size = a.cells.length ∧ (∀ x ∈ u.cells, x.oneCell' = true) ∧ ∀ i, i < a.cells.length → Rv G (a.cells.getD i .any) (u.cells.getD i undef) := by
  by_cases hg : ∃ cs, a = .agg cs
  · obtain ⟨cs, rfl⟩ := hg
    cases h with
    | agg _ us hl h1 h => exact ⟨by simpa [Value.cells, AV.cells] using hl, by simpa [Value.cells] using h1, by simpa [Value.cells, AV.cells] using h⟩
  · have hcell : a.cell = true := by cases a <;> first | exact hc | exact absurd ⟨_, rfl⟩ hg
    have h1 := h.one hcell
    have hu : u.cells = #[u] := by cases u <;> first | rfl | (simp [Value.oneCell'] at h1)
    have ha : a.cells = [a] := by cases a <;> first | rfl | exact absurd ⟨_, rfl⟩ hg
    rw [hu, ha]
    refine ⟨rfl, by simpa using h1, fun i hi => ?_⟩
    simp only [List.length_singleton] at hi
    obtain rfl : i = 0 := by omega
    simpa using h
theorem Rv.agg' {cs : List AV} {arr : Array Value} (hl : arr.size = cs.length) (h1 : ∀ x ∈ arr, x.oneCell' = true) (h : ∀ i, i < cs.length → Rv G (cs.getD i .any) (arr.getD i undef)) : Rv G (.agg cs) (.agg arr) := by
  have := Rv.agg (G := G) cs arr.toList (by simpa using hl) (by simpa using h1) (by simpa using h)
  simpa using this
theorem Rv.agg_inv {cs : List AV} {u : Value} (h : Rv G (.agg cs) u) : ∃ arr : Array Value, u = .agg arr ∧ arr.size = cs.length ∧ (∀ x ∈ arr, x.oneCell' = true) ∧ ∀ i, i < cs.length → Rv G (cs.getD i .any) (arr.getD i undef) := by
  cases h with
  | agg _ us hl h1 h => exact ⟨us.toArray, rfl, by simpa using hl, by simpa using h1, by simpa using h⟩
end vals

/-! ### Numbers -/
/-- Operators on exact values. -/
def sc2 (d : Option TypeDesc) (op : BinOp) (x y : Value) : Option Value :=
  match x, y with
  | .int k a, .int yk b =>
    match op with
    | .shl => if b < 0 then none else some (.int k (k.wrap (a * 2 ^ (min b.toNat k.bits))))
    | .shr => if b < 0 then none else some (.int k (a.fdiv (2 ^ (min b.toNat k.bits))))
    | .add => if k = yk then some (.int k (k.wrap (a + b))) else none
    | .sub => if k = yk then some (.int k (k.wrap (a - b))) else none
    | .mul => if k = yk then some (.int k (k.wrap (a * b))) else none
    | .quo => if k = yk ∧ b ≠ 0 then some (.int k (k.wrap (a.tdiv b))) else none
    | .rem => if k = yk ∧ b ≠ 0 then some (.int k (a.tmod b)) else none
    | .and => if k = yk then some (.int k (k.wrap (BitVec.ofInt k.bits a &&& BitVec.ofInt k.bits b).toNat)) else none
    | .or => if k = yk then some (.int k (k.wrap (BitVec.ofInt k.bits a ||| BitVec.ofInt k.bits b).toNat)) else none
    | .xor => if k = yk then some (.int k (k.wrap (BitVec.ofInt k.bits a ^^^ BitVec.ofInt k.bits b).toNat)) else none
    | .andNot => if k = yk then some (.int k (k.wrap (BitVec.ofInt k.bits a &&& ~~~ BitVec.ofInt k.bits b).toNat)) else none
    | .eql => if k = yk then some (.bool (a == b)) else none
    | .neq => if k = yk then some (.bool (a != b)) else none
    | .lss => if k = yk then some (.bool (decide (a < b))) else none
    | .leq => if k = yk then some (.bool (decide (a ≤ b))) else none
    | .gtr => if k = yk then some (.bool (decide (a > b))) else none
    | .geq => if k = yk then some (.bool (decide (a ≥ b))) else none
  | .bool a, .bool b =>
    match op, d with
    | .eql, some .bool => some (.bool (a == b))
    | .neq, some .bool => some (.bool (!(a == b)))
    | _, _ => none
  | _, _ => none

theorem run_equalIn_bool {P : Program} (d : Nat) {t : TypeId} (h : P.underlying t = some .bool) (a b : Bool) (w : World) : (Op.equalIn (d + 1) t (.bool a) (.bool b)).run P w = .ok (a == b) w := by
  simp only [Op.equalIn, Sem.run_bind, run_underlying h, Result.andThen_ok, Sem.run_pure]
theorem run_equal_bool {P : Program} {t : TypeId} (h : P.underlying t = some .bool) (a b : Bool) (w : World) : (Op.equal t (.bool a) (.bool b)).run P w = .ok (a == b) w := run_equalIn_bool 9999 h a b w
theorem sc2_ok {P : Program} {op : BinOp} {t : TypeId} {x y : Operand} {u v r : Value} {d : Option TypeDesc} (hd : ∀ e, d = some e → P.underlying t = some e) (h : sc2 d op u v = some r) (w : World) :
    (do eqGuard op t x y u v; binOp op t u v : Sem Value).run P w = .ok r w := by
  unfold sc2 at h
  split at h
  · rename_i k a yk b
    have hgd : eqGuard op t x y (.int k a) (.int yk b) = Pure.pure () := by cases op <;> rfl
    rw [hgd]
    cases op <;> simp only at h <;> split at h <;> first
      | (cases h; done)
      | (rename_i hc; first | (obtain ⟨rfl, hc⟩ := hc) | subst hc | skip
         cases h
         simp [binOp, Op.shift, Op.intArith, Op.intDiv, Op.intBits, Op.intCmp, Sem.run_bind, *])
  · rename_i a b
    have hgd : eqGuard op t x y (.bool a) (.bool b) = Pure.pure () := by cases op <;> rfl
    rw [hgd]
    split at h
    · cases h
      have := hd _ rfl
      simp only [binOp, Sem.run_bind, run_equal_bool this, Result.andThen_ok, Sem.run_pure]
    · cases h
      have := hd _ rfl
      simp only [binOp, Sem.run_bind, run_equal_bool this, Result.andThen_ok, Sem.run_pure]
    · cases h
  · cases h
end Go.Proofs.Ytkollnaojpppcaa
