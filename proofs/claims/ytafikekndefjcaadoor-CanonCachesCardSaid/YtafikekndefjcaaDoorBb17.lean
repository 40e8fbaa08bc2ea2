/- Bytes: their strings, and as an argument; no condition. -/
import Derived.Test.YtafikekndefjcaaDoorNil
import Derived.Test.YtafikekndefjcaaDoorCvG
namespace Go.Proofs.YtafikekndefjcaaDoor
set_option linter.unusedVariables false
set_option linter.unusedSimpArgs false
set_option linter.unusedSectionVars false
open Go.RowKit Go.WideShapes Go.ChangeShapes Go.ChangeAt
set_option maxRecDepth 100000
def aB (xs : List Int) : AV := .sl 1 (xs.map fun x => [.v (.int .u8 x)])
def toB : AV → Option (List Int)
  | .sl 1 ys => bytesOf ys
  | .v (.slice none 0 0) => some []
  | _ => none
@[simp] theorem bytesOf_map : ∀ xs : List Int, bytesOf (xs.map fun x => [.v (.int .u8 x)]) = some xs
  | [] => rfl
  | x :: xs => by simp [bytesOf, rowB, bytesOf_map xs]
@[simp] theorem toB_aB (xs : List Int) : toB (aB xs) = some xs := bytesOf_map xs
@[simp] theorem toB_nil : toB (.v (.slice none 0 0)) = some [] := rfl
theorem ids_bytes : ∀ xs : List Int, idsLL (xs.map fun x => [AV.v (.int .u8 x)]) = []
  | [] => rfl
  | x :: xs => by simp [idsLL, idsL, AV.ids, ids_bytes xs]
@[simp ↓ high] theorem d_ids_aB (xs : List Int) : (aB xs).ids = [] := ids_bytes xs
theorem bytesOf_inv : ∀ {ys : List (List AV)} {xs : List Int}, bytesOf ys = some xs → ys = xs.map fun x => [.v (.int .u8 x)]
  | [], xs, h => by simp only [bytesOf, Option.some.injEq] at h; subst h; rfl
  | r :: rs, xs, h => by
    simp only [bytesOf] at h
    split at h
    · rename_i x l h1 h2
      cases h
      rw [rowB_inv h1, List.map_cons, ← bytesOf_inv h2]
    · cases h
theorem cov_B {a : AV} {xs : List Int} (h : toB a = some xs) : Cov a (aB xs) := fun S v hv => by
  unfold toB at h
  split at h
  · rw [bytesOf_inv h] at hv; exact hv
  · cases h; rw [hv.v_eq]; exact rv_nil 1
  · cases h
def okB (xs : List Int) : Bool := xs.all fun x => decide (0 ≤ x) && decide (x < 256)
theorem strOf_inj {xs ys : List Int} (hx : okB xs = true) (hy : okB ys = true) (h : strOfNums xs = strOfNums ys) : xs = ys := by
  unfold strOfNums at h
  have h1 : xs.map (fun n => UInt8.ofNat n.toNat) = ys.map fun n => UInt8.ofNat n.toNat := by
    simpa using h
  have key : ∀ (xs ys : List Int), okB xs = true → okB ys = true → xs.map (fun n => UInt8.ofNat n.toNat) = ys.map (fun n => UInt8.ofNat n.toNat) → xs = ys := by
    intro xs
    induction xs with
    | nil => intro ys _ _ h; cases ys with
      | nil => rfl
      | cons _ _ => simp at h
    | cons x xs ih => intro ys h2 h3 h; cases ys with
      | nil => simp at h
      | cons y ys =>
        rw [List.map_cons, List.map_cons, List.cons.injEq] at h
        simp only [okB, List.all_cons, Bool.and_eq_true, decide_eq_true_eq] at h2 h3
        have e := congrArg UInt8.toNat h.1
        rw [UInt8.toNat_ofNat', UInt8.toNat_ofNat'] at e
        rw [ih ys h2.2 h3.2 h.2]
        congr 1
        omega
  exact key xs ys hx hy h1
theorem bytes_ex : ∀ (ys : List (List AV)), (∀ q ∈ ys, ∃ x, q = [AV.v (.int .u8 x)] ∧ (Lit.int .u8 x).wf = true) → ∃ xs : List Int, ys = xs.map (fun x => [AV.v (.int .u8 x)]) ∧ okB xs = true
  | [], _ => ⟨[], rfl, rfl⟩
  | y :: ys, h => by
    obtain ⟨x, rfl, hx⟩ := h y (by simp)
    obtain ⟨xs, rfl, hxs⟩ := bytes_ex ys fun q hq => h q (List.mem_cons_of_mem _ hq)
    refine ⟨x :: xs, rfl, ?_⟩
    have := bounds_u8 hx
    unfold okB at hxs ⊢
    simp only [List.all_cons, hxs, Bool.and_true, Bool.and_eq_true, decide_eq_true_eq]
    omega
section
variable {H : Type} {enc : TypeId × Value → H} {W : World}
theorem opens_bytes : Opens enc Tryd.prog W 34 (fun r => ∃ xs, r = [aB xs] ∧ okB xs = true ∧ xs.length ≤ 9223372036854775807) :=
  (opens_slice (sz := 1) Tryd.underlying34 (by kernel_rfl) (by omega) (opens_int Tryd.underlying5)).mono fun r h => by
    obtain ⟨ys, rfl, hl, hy⟩ := h
    obtain ⟨xs, rfl, hx⟩ := bytes_ex ys hy
    refine ⟨xs, rfl, hx, ?_⟩
    simpa [AMax] using hl
theorem arg_bytes {base : Nat} {sp : Nat → Bool} {held : Bool} {v : Value} {d : DataW H} {p : List MemPlace} (hval : Value.okWide Tryd.prog W .any base 34 v) (h : DataW.Trod enc Tryd.prog W 0 sp held 34 v d p) :
    ∃ xs, Rv (G0 (allS W)) (aB xs) v ∧ okB xs = true ∧ xs.length ≤ 9223372036854775807 := by
  obtain ⟨a, h1, x, h2, h3⟩ := arg_one (cells_slice Tryd.underlying34 hval) h opens_bytes
  cases h2
  exact ⟨x, h1, h3⟩
end
end Go.Proofs.YtafikekndefjcaaDoor
