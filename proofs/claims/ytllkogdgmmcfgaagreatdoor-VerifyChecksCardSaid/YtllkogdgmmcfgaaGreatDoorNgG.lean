/- Nets as lists: validity, evaluation, variables (plain); no condition. -/
import Derived.Test.YtllkogdgmmcfgaaGreatDoorCvG
import Derived.Test.YtllkogdgmmcfgaaGreatDoorAm20
/- Nt39: Nets as lists: validity, evaluation, variables (plain); no condition. -/
namespace Go.Proofs.YtllkogdgmmcfgaaGreatDoor
set_option linter.unusedVariables false
set_option linter.unusedSimpArgs false
set_option linter.unusedSectionVars false
open Go.RowKit
set_option maxRecDepth 100000
abbrev Nd := Int × Int × List Int
def nd0 : Nd := (0, 0, [])
def aNd (x : Nd) : List AV := [.v (.int .i64 x.1), .v (.int .i64 x.2.1), aInts x.2.2]
def aNds (ns : List Nd) : AV := .sl 3 (ns.map fun x => [AV.v (.int .i64 x.1), .v (.int .i64 x.2.1), aInts x.2.2])
def aNet (N : Int) (ns : List Nd) : AV := .agg [.v (.int .i64 N), aNds ns]
def okNd (x : Nd) : Bool := okI x.1 && okI x.2.1 && okInts x.2.2 && decide (x.2.2.length ≤ 400)
def okNs (ns : List Nd) : Bool := decide (ns.length ≤ 200) && ns.all okNd
def formB (x : Nd) (n i : Int) : Bool :=
 x.2.2.all (fun k => decide (0 ≤ k) && decide (k < i)) &&
 (if x.1 = 0 ∨ x.1 = 1 then decide (x.2.1 = 0) && decide (x.2.2.length = 0)
 else if x.1 = 2 then litOk x.2.1 n && decide (x.2.2.length = 0)
 else if x.1 = 3 ∨ x.1 = 4 then decide (x.2.1 = 0) else false)
def validN (N : Int) (ns : List Nd) : Bool :=
 decide (0 ≤ N) && decide (N ≤ 128) && decide (1 ≤ ns.length) && decide (ns.length ≤ 65536) && (List.range ns.length).all fun i => formB (ns.getD i nd0) N i
def scanN {α : Type} (f : Nd → List α → α) (ns : List Nd) : List α := ns.foldl (fun out x => out ++ [f x out]) []
section
variable {α β : Type} (f : Nd → List α → α)
theorem scanN_nil : scanN f [] = [] := rfl
end
def litV (a : BitVec 128) (l : Int) : Bool := if litVar l = 0 then false else (sHas a (litVar l) == decide (0 < l))
def nodeV (a : BitVec 128) (x : Nd) (is : List Bool) : Bool :=
 if x.1 = 1 then true else if x.1 = 2 then litV a x.2.1
 else if x.1 = 3 then x.2.2.all fun k => is.getD k.toNat false
 else if x.1 = 4 then x.2.2.any fun k => is.getD k.toNat false else false
def valsL (a : BitVec 128) (ns : List Nd) : List Bool := scanN (nodeV a) ns
def evalR (ns : List Nd) (a : BitVec 128) : Bool := (valsL a ns).getD (ns.length - 1) false
def evalN (N : Int) (ns : List Nd) (a : BitVec 128) : Bool := validN N ns && evalR ns a
def nodeS (x : Nd) (out : List (BitVec 128)) : BitVec 128 := x.2.2.foldl (fun s k => s ||| out.getD k.toNat 0#128) (sBit (litVar x.2.1))
def varsL (ns : List Nd) : List (BitVec 128) := scanN nodeS ns
def matS (ns : List Nd) : BitVec 128 := (varsL ns).getD (ns.length - 1) 0#128
def aSets (l : List (BitVec 128)) : AV := .sl 2 (l.map fun s => [AV.v (.int .u64 ((lo s).toNat : Int)), .v (.int .u64 ((hi s).toNat : Int))])
@[simp] theorem sets_get {l : List (BitVec 128)} {k : Nat} (h : k < l.length) : (l.map fun s => [AV.v (.int .u64 ((lo s).toNat : Int)), .v (.int .u64 ((hi s).toNat : Int))]).getD k [] = [.v (.int .u64 ((lo (l.getD k 0#128)).toNat : Int)), .v (.int .u64 ((hi (l.getD k 0#128)).toNat : Int))] := by
 simp [List.getD, h]
@[simp ↓ high] theorem d_ids_aSets (l : List (BitVec 128)) : idsLL (l.map fun s => [AV.v (.int .u64 ((lo s).toNat : Int)), .v (.int .u64 ((hi s).toNat : Int))]) = [] := by
 induction l with
 | nil => rfl
 | cons p r ih => simp [idsLL, idsL, AV.ids, ih]
@[simp ↓ high] theorem d_ren_aSets (ρ : Nat → Nat) (l : List (BitVec 128)) : renLL ρ (l.map fun s => [AV.v (.int .u64 ((lo s).toNat : Int)), .v (.int .u64 ((hi s).toNat : Int))]) = l.map fun s => [AV.v (.int .u64 ((lo s).toNat : Int)), .v (.int .u64 ((hi s).toNat : Int))] := renLL_pure ρ _ (d_ids_aSets l)
def accV (x : Nd) (out : List (BitVec 128)) (j : Nat) : BitVec 128 := (x.2.2.take j).foldl (fun s k => s ||| out.getD k.toNat 0#128) (sBit (litVar x.2.1))
theorem accV_succ (x : Nd) (out : List (BitVec 128)) {j : Nat} (hj : j < x.2.2.length) : accV x out (j + 1) = accV x out j ||| out.getD (x.2.2.getD j 0).toNat 0#128 := by
 unfold accV
 rw [List.take_add_one, List.getElem?_eq_getElem hj, List.foldl_append]
 simp [List.getD, hj]
theorem accV_all (x : Nd) (out : List (BitVec 128)) : accV x out x.2.2.length = nodeS x out := by
 unfold accV nodeS; rw [List.take_length]
theorem foldS_has (out : List (BitVec 128)) (v : Int) : ∀ (xs : List Int) (s : BitVec 128), sHas (xs.foldl (fun s k => s ||| out.getD k.toNat 0#128) s) v = (sHas s v || xs.any fun k => sHas (out.getD k.toNat 0#128) v)
 | [], s => by simp
 | k :: r, s => by
  rw [List.foldl_cons, foldS_has out v r, sHas_or, List.any_cons, Bool.or_assoc]
theorem nodeS_has (x : Nd) (out : List (BitVec 128)) (v : Int) : sHas (nodeS x out) v = (sHas (sBit (litVar x.2.1)) v || x.2.2.any fun k => sHas (out.getD k.toNat 0#128) v) := foldS_has _ _ _ _
theorem valid_form {N : Int} {ns : List Nd} (h : validN N ns = true) {i : Nat} (hi : i < ns.length) : formB (ns.getD i nd0) N i = true := by
 unfold validN at h
 simp only [Bool.and_eq_true] at h
 exact List.all_eq_true.1 h.2 i (List.mem_range.2 hi)
theorem form_in {x : Nd} {n i : Int} (h : formB x n i = true) {k : Int} (hk : k ∈ x.2.2) : 0 ≤ k ∧ k < i := by
 unfold formB at h
 rw [Bool.and_eq_true] at h
 have := List.all_eq_true.1 h.1 k hk
 simpa using this
end Go.Proofs.YtllkogdgmmcfgaaGreatDoor
