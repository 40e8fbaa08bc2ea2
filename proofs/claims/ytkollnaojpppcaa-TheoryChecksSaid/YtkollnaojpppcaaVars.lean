/- Contracts of package vars; no condition. -/
import Derived.Test.YtkollnaojpppcaaRows
import Derived.Test.YtkollnaojpppcaaSet
namespace Go.Proofs.Ytkollnaojpppcaa
open Go.RowKit

/-- It returns this, and nothing that was there has changed. -/
def Gives (w : World) (v : Value) (e : Ending) (w' : World) : Prop := e = .returned v ∧ Below w.heap.size w w'

theorem below0 (w : World) : Below w.heap.size w w := Below.refl _ _
theorem below1 (w : World) (o : Obj) : Below w.heap.size w (w.alloc o) := (Below.refl _ _).alloc (Nat.le_refl _) _
theorem below2 (w : World) (o o' : Obj) : Below w.heap.size w ((w.alloc o).alloc o') := (below1 w o).alloc (by simp) _
theorem below3 (w : World) (o o' o'' : Obj) : Below w.heap.size w (((w.alloc o).alloc o').alloc o'') := (below2 w o o').alloc (by simp; omega) _

set_option maxHeartbeats 400000 in
theorem place_no (v : Int) (w : World) (h : v < 1 ∨ 128 < v) :
    Calls Try.prog 73 #[.int .i64 v] w fun e w' => e = .returned (.tuple #[.int .i64 0, .int .u64 0, .bool false]) ∧ w = w' := by
  by_cases h1 : v < 1
  · clear h
    go_enter Try.func73, Try.ntmps73
    go_wp2
    go_ret3
    exact ⟨rfl, rfl⟩
  · have h2 : 128 < v := by omega
    clear h
    go_enter Try.func73, Try.ntmps73
    go_wp2
    go_ret3
    exact ⟨rfl, rfl⟩

theorem ret3_eq {a b c a' b' c' : Value} (h1 : a = a') (h2 : b = b') (h3 : c = c') : Ending.returned (.tuple #[a, b, c]) = Ending.returned (.tuple #[a', b', c']) := by rw [h1, h2, h3]

set_option maxHeartbeats 400000 in
theorem place_lo (v : Int) (w : World) (h1 : 1 ≤ v) (h2 : v ≤ 64) :
    Calls Try.prog 73 #[.int .i64 v] w fun e w' => e = .returned (.tuple #[.int .i64 0, WV (BitVec.twoPow 64 (v - 1).toNat), .bool true]) ∧ w = w' := by
  have HF := Lib.hid (show IntKind.u64.wrap (2 ^ ((v - 1) % 64).toNat) = ((BitVec.twoPow 64 (v - 1).toNat).toNat : Int) by
    rw [show ((v - 1) % 64).toNat = (v - 1).toNat by omega]; exact shift_one _ (by omega))
  go_enter Try.func73, Try.ntmps73
  go_wp2
  go_ret3
  exact ⟨ret3_eq (congrArg (Value.int .i64) (by omega)) (congrArg (Value.int .u64) HF.out) rfl, rfl⟩

set_option maxHeartbeats 400000 in
theorem place_hi (v : Int) (w : World) (h1 : 65 ≤ v) (h2 : v ≤ 128) :
    Calls Try.prog 73 #[.int .i64 v] w fun e w' => e = .returned (.tuple #[.int .i64 1, WV (BitVec.twoPow 64 (v - 65).toNat), .bool true]) ∧ w = w' := by
  have HF := Lib.hid (show IntKind.u64.wrap (2 ^ ((v - 1) % 64).toNat) = ((BitVec.twoPow 64 (v - 65).toNat).toNat : Int) by
    rw [show ((v - 1) % 64).toNat = (v - 65).toNat by omega]; exact shift_one _ (by omega))
  have h1' : 1 ≤ v := by omega
  go_enter Try.func73, Try.ntmps73
  go_wp2
  go_ret3
  exact ⟨ret3_eq (congrArg (Value.int .i64) (by omega)) (congrArg (Value.int .u64) HF.out) rfl, rfl⟩

theorem agg2_eq {a b a' b' : Value} (h1 : a = a') (h2 : b = b') : Ending.returned (.agg #[a, b]) = Ending.returned (.agg #[a', b']) := by rw [h1, h2]

set_option maxHeartbeats 400000 in
theorem with_c (s : BitVec 128) (v : Int) (w : World) :
    Calls Try.prog 56 #[SV s, .int .i64 v] w (Gives w (SV (sWith s v))) := by
  unfold SV WV
  by_cases h : v < 1 ∨ 128 < v
  · rw [sWith_none s v h]
    generalize lo s = x
    generalize hi s = y
    have hp := fun w => place_no v w h
    clear h
    go_enter Try.func56, Try.ntmps56
    go_wp2_with (go_at_call 73; refine (hp _).mono ?_; rintro e w' ⟨rfl, rfl⟩)
    exact bodyPost_ret (v := .agg #[.int .u64 (x.toNat : Int), .int .u64 (y.toNat : Int)]) (by simp [results, Try.results56, go_sem]) rfl ⟨rfl, below2 _ _ _⟩
  · by_cases h2 : v ≤ 64
    · have hp := fun w => place_lo v w (by omega) h2
      rw [(lo_with s v (by omega) h2).1, (lo_with s v (by omega) h2).2]
      unfold WV at hp
      generalize BitVec.twoPow 64 (v - 1).toNat = z at *
      generalize lo s = x
      generalize hi s = y
      have HF := Lib.hid (bits_or x z)
      clear h h2
      go_enter Try.func56, Try.ntmps56
      go_wp2_with (go_at_call 73; refine (hp _).mono ?_; rintro e w' ⟨rfl, rfl⟩)
      exact bodyPost_ret (v := .agg #[.int .u64 (bits .or .u64 (x.toNat : Int) (z.toNat : Int)), .int .u64 (y.toNat : Int)]) (by simp [results, Try.results56, go_sem]) rfl ⟨agg2_eq (by rw [HF.out]) rfl, below2 _ _ _⟩
    · have hp := fun w => place_hi v w (by omega) (by omega)
      rw [(hi_with s v (by omega) (by omega)).1, (hi_with s v (by omega) (by omega)).2]
      unfold WV at hp
      generalize BitVec.twoPow 64 (v - 65).toNat = z at *
      generalize lo s = x
      generalize hi s = y
      have HF := Lib.hid (bits_or y z)
      clear h h2
      go_enter Try.func56, Try.ntmps56
      go_wp2_with (go_at_call 73; refine (hp _).mono ?_; rintro e w' ⟨rfl, rfl⟩)
      exact bodyPost_ret (v := .agg #[.int .u64 (x.toNat : Int), .int .u64 (bits .or .u64 (y.toNat : Int) (z.toNat : Int))]) (by simp [results, Try.results56, go_sem]) rfl ⟨agg2_eq rfl (by rw [HF.out]), below2 _ _ _⟩

end Go.Proofs.Ytkollnaojpppcaa
