/- Claims as an argument; the row of the reference's Bytes; no condition. -/
import Derived.Test.YthdjgcjpolpgdaaRc22
namespace Go.Proofs.Ythdjgcjpolpgdaa
set_option linter.unusedVariables false
set_option linter.unusedSimpArgs false
set_option linter.unusedSectionVars false
open Go.RowKit
set_option maxRecDepth 100000
def clsOf : List (List AV) → Option (List Cl)
  | [] => some []
  | [a, b] :: r => match toInts a, toInts b, clsOf r with
    | some x, some y, some l => some ((x, y) :: l)
    | _, _, _ => none
  | _ :: _ => none
def toCls : AV → Option (List Cl)
  | .sl 2 ys => clsOf ys
  | .v (.slice none 0 0) => some []
  | _ => none
@[simp] theorem clsOf_map : ∀ l : List Cl, clsOf (l.map fun p => [aInts p.1, aInts p.2]) = some l
  | [] => rfl
  | (x, y) :: l => by simp [clsOf, clsOf_map l]
@[simp] theorem toCls_sl (l : List Cl) : toCls (.sl 2 (l.map fun p => [aInts p.1, aInts p.2])) = some l := clsOf_map l
@[simp] theorem toCls_aCls (l : List Cl) : toCls (aCls l) = some l := clsOf_map l
@[simp] theorem toCls_nil : toCls (.v (.slice none 0 0)) = some [] := rfl
theorem clsOf_rows : ∀ {ys : List (List AV)} {l : List Cl}, clsOf ys = some l → ys.length = l.length ∧ ∀ i, i < l.length → ∃ a b, ys.getD i [] = [a, b] ∧ toInts a = some (l.getD i ([], [])).1 ∧ toInts b = some (l.getD i ([], [])).2
  | [], l, h => by
    simp only [clsOf, Option.some.injEq] at h
    subst h
    exact ⟨rfl, fun i hi => absurd hi (by simp)⟩
  | [] :: r, l, h => by simp [clsOf] at h
  | [_] :: r, l, h => by simp [clsOf] at h
  | (_ :: _ :: _ :: _) :: r, l, h => by simp [clsOf] at h
  | [a, b] :: r, l, h => by
    simp only [clsOf] at h
    split at h
    · rename_i x y l2 h1 h2 h3
      cases h
      obtain ⟨g1, g2⟩ := clsOf_rows h3
      refine ⟨by simp [g1], fun i hi => ?_⟩
      cases i with
      | zero => exact ⟨a, b, rfl, h1, h2⟩
      | succ i =>
        have := g2 i (by simpa using hi)
        simpa using this
    · cases h
theorem cov_cls {a : AV} {l : List Cl} (h : toCls a = some l) : Cov a (aCls l) := fun S v hv => by
  unfold toCls at h
  split at h
  · rename_i ys
    obtain ⟨g1, g2⟩ := clsOf_rows h
    cases hv with
    | sl _ _ b n c us hn hc hm h0 hz ha h3 h4 =>
      refine .sl 2 _ b n c us (by rw [hn, List.length_map, g1]) hc hm h0 (fun i hi => ?_) (fun hp => ?_) (fun i j hi hj => ?_) (fun i j hi hj => ?_)
      · rw [List.length_map] at hi; rw [cls_get hi]; rfl
      · rw [List.length_map] at hp
        obtain ⟨b2, base, e1, e2⟩ := ha (by omega)
        exact ⟨b2, base, e1, fun i j hi hj => e2 i j (by rw [List.length_map] at hi; omega) hj⟩
      · rw [List.length_map] at hi
        exact h3 i j (by omega) hj
      · rw [List.length_map] at hi
        obtain ⟨a, b, e1, e2, e3⟩ := g2 i hi
        have h5 := h4 i j (by omega) hj
        rw [e1] at h5
        rw [cls_get hi]
        match j, hj with
        | 0, hj => exact cov_ints e2 S _ h5
        | 1, hj => exact cov_ints e3 S _ h5
  · cases h; rw [hv.v_eq]; exact rv_nil 2
  · cases h
theorem r2Bytes_p (l : List Cl) (hl : okCl l = true) (hk : decide (l.length ≤ 65536) = true ∧ l.all clG = true) : FnPure Try.prog 56 [aCls l] (aB (fullB l)) :=
  obj_pure (bytes_robj l hl hk.2 (of_decide_eq_true hk.1)) (fun B G n w a v T hr hT hv => read_bytes hr hT (k := 0) (by simp [lk]) hv)
@[simp] def g_r2Bytes : List AV → Option (AV × Bool)
  | [a0] => (match toCls a0 with | some l => if (okCl l && (decide (l.length ≤ 65536) && l.all clG)) = true then some (aB (fullB l), false) else none | none => none)
  | _ => none
theorem e_r2Bytes : EntOk Try.prog 56 g_r2Bytes := ent_pure (by kernel_rfl) fun args r fr h => by
  unfold g_r2Bytes at h
  split at h
  · rename_i a0
    split at h
    · rename_i l t0
      split at h
      · rename_i hc
        simp only [Bool.and_eq_true] at hc
        obtain ⟨o0, hk⟩ := hc
        cases h
        exact ⟨FnPure.cov (r2Bytes_p l o0 hk) (.cons (cov_cls t0) .nil), rfl⟩
      · cases h
    · cases h
  · cases h

def l111 : List (FuncId × (List AV → Option (AV × Bool))) :=
  (56, g_r2Bytes) :: l110
theorem l111_ok : ∀ p ∈ l111, EntOk Try.prog p.1 p.2 := ent_cons e_r2Bytes (l110_ok)
def PT111 : PTab := tab l111
theorem PT111_ok : PTok Try.prog PT111 := tab_ok l111_ok
@[simp] theorem PT111_litVar : PT111 32 = g_litVar := rfl
@[simp] theorem PT111_litValid : PT111 77 = g_litValid := rfl
@[simp] theorem PT111_contains : PT111 50 = g_contains := rfl
@[simp] theorem PT111_check : PT111 46 = g_check := rfl
@[simp] theorem PT111_with : PT111 33 = g_with := rfl
@[simp] theorem PT111_without : PT111 31 = g_without := rfl
@[simp] theorem PT111_all : PT111 30 = g_all := rfl
@[simp] theorem PT111_rValid : PT111 71 = g_rValid := rfl
@[simp] theorem PT111_rCheck : PT111 42 = g_rCheck := rfl
@[simp] theorem PT111_litvalid : PT111 85 = g_litvalid := rfl
@[simp] theorem PT111_opposite : PT111 87 = g_opposite := rfl
@[simp] theorem PT111_clone : PT111 99 = g_clone := rfl
@[simp] theorem PT111_order : PT111 86 = g_order := rfl
@[simp] theorem PT111_term : PT111 69 = g_term := rfl
@[simp] theorem PT111_clause : PT111 57 = g_clause := rfl
@[simp] theorem PT111_equal : PT111 61 = g_equal := rfl
@[simp] theorem PT111_distinct : PT111 60 = g_distinct := rfl
@[simp] theorem PT111_normal : PT111 27 = g_normal := rfl
@[simp] theorem PT111_rContains : PT111 74 = g_rContains := rfl
@[simp] theorem PT111_rSameInts : PT111 52 = g_rSameInts := rfl
@[simp] theorem PT111_rAbs : PT111 114 = g_rAbs := rfl
@[simp] theorem PT111_rBefore : PT111 97 = g_rBefore := rfl
@[simp] theorem PT111_rSorted : PT111 75 = g_rSorted := rfl
@[simp] theorem PT111_rPut : PT111 76 = g_rPut := rfl
@[simp] theorem PT111_rNormal : PT111 45 = g_rNormal := rfl
@[simp] theorem PT111_place : PT111 62 = g_place := rfl
@[simp] theorem PT111_vHas : PT111 34 = g_vHas := rfl
@[simp] theorem PT111_vMinus : PT111 90 = g_vMinus := rfl
@[simp] theorem PT111_vCut : PT111 29 = g_vCut := rfl
@[simp] theorem PT111_vSub : PT111 65 = g_vSub := rfl
@[simp] theorem PT111_litHolds : PT111 64 = g_litHolds := rfl
@[simp] theorem PT111_litAny : PT111 36 = g_litAny := rfl
@[simp] theorem PT111_thEval : PT111 37 = g_thEval := rfl
@[simp] theorem PT111_rSame : PT111 22 = g_rSame := rfl
@[simp] theorem PT111_rTerm : PT111 73 = g_rTerm := rfl
@[simp] theorem PT111_thVars : PT111 35 = g_thVars := rfl
@[simp] theorem PT111_light : PT111 13 = g_light := rfl
@[simp] theorem PT111_r2Num : PT111 84 = g_r2Num := rfl
@[simp] theorem PT111_r2Formed : PT111 43 = g_r2Formed := rfl
@[simp] theorem PT111_r2In : PT111 51 = g_r2In := rfl
@[simp] theorem PT111_r2Same : PT111 23 = g_r2Same := rfl
@[simp] theorem PT111_r2Var : PT111 72 = g_r2Var := rfl
@[simp] theorem PT111_trLight : PT111 14 = g_trLight := rfl
@[simp] theorem PT111_trGood : PT111 47 = g_trGood := rfl
@[simp] theorem PT111_r2Bytes : PT111 56 = g_r2Bytes := rfl
end Go.Proofs.Ythdjgcjpolpgdaa
