/- Steps of walks within regions; lists that are let go, as lists; no condition. -/
import Derived.Test.YtecdhmiamlgibaaDoorNil
import Derived.Test.YtecdhmiamlgibaaDoorCvG
import Derived.Test.YtecdhmiamlgibaaDoorAmB
namespace Go.Proofs.YtecdhmiamlgibaaDoor
set_option linter.unusedVariables false
set_option linter.unusedSimpArgs false
set_option linter.unusedSectionVars false
open Go.RowKit
set_option maxRecDepth 100000
section
variable {P : Program} {σ : AS} {B : Base} {Q : Exit → AS → Prop} {ops : Array Oper}
theorem spl_frz {r : List Oper} (D : Nat → Bool) (k : SPL P B ops r (σ.frz D) Q) : SPL P B ops r σ Q := fun D' G w a hr => k D' _ w a (hr.frz D)
theorem spl_eq {τ : AS} {r : List Oper} (h : σ = τ) (k : SPL P B ops r τ Q) : SPL P B ops r σ Q := h ▸ k
theorem spl_coreX {TT : TTab} (hTT : TTok P TT) {id : Nat} {o : Oper} {r : List Oper} {s : Res} (hd : dstOk σ o = true) (hw : wantA σ ops o = some true) (h : coreX TT σ id o = some s) (k : SPL P B ops r ((σ.upd s.2).put o.dst s.1) Q) : SPL P B ops (o :: r) σ Q := spl_op hd hw (coreX_ok hTT h).1 k (coreX_ok hTT h).2
end
@[simp ↓ high] theorem d_rows_mk (σ : AS) (t : TypeId) (xs : List (List AV)) (L : List (List Int)) : σ.rows (AObj.mk t 1 xs).sz (aRows L) = some (L.map fun xs => [aInts xs]) := rfl
@[simp ↓ high] theorem d_rows_mki (σ : AS) (t : TypeId) (xs : List (List AV)) (L : List Int) : σ.rows (AObj.mk t 1 xs).sz (aInts L) = some (L.map fun x => [.v (.int .i64 x)]) := rfl
theorem ids_rep (x : Value) : ∀ n, idsLL (List.replicate n [AV.v x]) = []
 | 0 => rfl
 | n + 1 => by rw [List.replicate_succ, idsLL, ids_rep x n]; rfl
@[simp ↓ high] theorem d_frz_app (σ : AS) (D : Nat → Bool) (L : List (List Int)) (a : AV) : ((L.map fun xs => [aInts xs]) ++ [[a]]).map (fun r => r.map (frzC σ D)) = (L.map fun xs => [aInts xs]) ++ [[frzC σ D a]] := by
 rw [List.map_append, List.map_map]
 congr 1
 refine List.map_congr_left fun xs _ => ?_
 show [frzC σ D (aInts xs)] = [aInts xs]
 unfold frzC
 rw [d_shut1_ints]; rfl
@[simp ↓ high] theorem d_frzC_ints (σ : AS) (D : Nat → Bool) (xs : List Int) : frzC σ D (aInts xs) = aInts xs := by
 unfold frzC
 rw [d_shut1_ints]; rfl
end Go.Proofs.YtecdhmiamlgibaaDoor
