/- An abstract machine for the text, part eleven: further operations, calls of functions that only compute; plain lemmas over any program; no condition. -/
import Derived.Test.YtkollnaojpppcaaAm10
import Derived.Laws.StructEq
import Derived.Laws.Small
import Derived.Laws.Slices
namespace Go.Proofs.Ytkollnaojpppcaa
open Go.RowKit

section ops
variable {P : Program} {σ : AS} {o : Oper}

/-- Equality of rows of exact values. -/
def eqAll (ints : Bool) : List AV → List AV → Option Bool
  | [], [] => some true
  | .v (.int k a) :: r, .v (.int k' b) :: s => if ints = true ∧ k = k' then (eqAll ints r s).map ((a == b) && ·) else none
  | .v (.bool a) :: r, .v (.bool b) :: s => if ints = false then (eqAll ints r s).map ((a == b) && ·) else none
  | _, _ => none
theorem part_one {P : Program} {w : World} {e : TypeId} (hag : (isAgg e).run P w = .ok false w) {arr : Array Value} {i : Nat} (h : i < arr.size) : (part e arr (i * 1)).run P w = .ok arr[i] w := by
  simp [part, hag, h]
theorem eqItems_ok {P : Program} {w : World} {e : TypeId} {b : Bool} (d : Nat) (hu : if b then ∃ k, P.underlying e = some (.int k) else P.underlying e = some .bool) (xs ys : Array Value) : ∀ (n k : Nat) (cs ds : List AV) (r : Bool), cs.length = n → k + n ≤ xs.size → k + n ≤ ys.size →
    (∀ G : Gh, ∀ i, i < n → Rv G (cs.getD i .any) (xs.getD (k + i) undef) → True) → (∀ i x, i < n → cs.getD i .any = .v x → xs.getD (k + i) undef = x) → (∀ i x, i < n → ds.getD i .any = .v x → ys.getD (k + i) undef = x) → eqAll b cs ds = some r →
    (Op.eqItems (d + 1) e 1 xs ys (List.range' k n)).run P w = .ok r w
  | 0, k, cs, ds, r, hl, _, _, _, _, _, h => by
    have : cs = [] := List.eq_nil_of_length_eq_zero hl
    subst this
    have hr : r = true := by cases ds <;> simp [eqAll] at h; exact h
    subst hr
    simp [Op.eqItems]
  | n + 1, k, cs, ds, r, hl, hx, hy, _, hcs, hds, h => by
    have hag : (isAgg e).run P w = .ok false w := by
      cases b with
      | true => obtain ⟨kk, hk⟩ := hu; exact agg_of_under hk rfl
      | false => exact agg_of_under hu rfl
    have hkx : k < xs.size := by omega
    have hky : k < ys.size := by omega
    have ex : xs.getD k undef = xs[k] := by simp [Array.getD, hkx]
    have ey : ys.getD k undef = ys[k] := by simp [Array.getD, hky]
    unfold eqAll at h
    split at h
    · simp at hl
    · rename_i kk aa r1 kk' bb s1 t
      split at h
      · rename_i hc
        obtain ⟨rfl, rfl⟩ := hc
        simp only [Option.map_eq_some_iff] at h
        obtain ⟨r', h1, rfl⟩ := h
        obtain ⟨ku, hku⟩ := hu
        have e1 := hcs 0 (.int kk aa) (by omega) (by simp)
        have e2 := hds 0 (.int kk bb) (by omega) (by simp)
        rw [Nat.add_zero, ex] at e1
        rw [Nat.add_zero, ey] at e2
        have ih := eqItems_ok (P := P) (w := w) (b := true) d ⟨ku, hku⟩ xs ys n (k + 1) _ _ r' (by simpa using hl) (by omega) (by omega) (fun _ _ _ _ => trivial)
          (fun i x hi hix => by have := hcs (i + 1) x (by omega) (by simpa using hix); rw [← this]; congr 1; omega)
          (fun i x hi hix => by have := hds (i + 1) x (by omega) (by simpa using hix); rw [← this]; congr 1; omega) h1
        simp only [List.range'_succ, Op.eqItems, Sem.run_bind, part_one hag hkx, part_one hag hky, Result.andThen_ok, e1, e2, run_equalIn_int w d e kk ku aa bb hku]
        cases hab : (aa == bb)
        · simp
        · simpa using ih
      · cases h
    · rename_i aa r1 bb s1 t
      split at h
      · rename_i hc
        subst hc
        simp only [Option.map_eq_some_iff] at h
        obtain ⟨r', h1, rfl⟩ := h
        have e1 := hcs 0 (.bool aa) (by omega) (by simp)
        have e2 := hds 0 (.bool bb) (by omega) (by simp)
        rw [Nat.add_zero, ex] at e1
        rw [Nat.add_zero, ey] at e2
        have hu' : P.underlying e = some .bool := hu
        have ih := eqItems_ok (P := P) (w := w) (b := false) d hu xs ys n (k + 1) _ _ r' (by simpa using hl) (by omega) (by omega) (fun _ _ _ _ => trivial)
          (fun i x hi hix => by have := hcs (i + 1) x (by omega) (by simpa using hix); rw [← this]; congr 1; omega)
          (fun i x hi hix => by have := hds (i + 1) x (by omega) (by simpa using hix); rw [← this]; congr 1; omega) h1
        simp only [List.range'_succ, Op.eqItems, Sem.run_bind, part_one hag hkx, part_one hag hky, Result.andThen_ok, e1, e2, Go.Proofs.Ytkollnaojpppcaa.run_equalIn_bool d hu' aa bb w]
        cases hab : (aa == bb)
        · simp
        · simpa using ih
      · cases h
    · cases h
theorem eqAll_len {b : Bool} : ∀ {cs ds : List AV} {r : Bool}, eqAll b cs ds = some r → ds.length = cs.length := by
  intro cs
  induction cs with
  | nil => intro ds r h; cases ds <;> simp [eqAll] at h; rfl
  | cons c cs ih =>
    intro ds r h
    unfold eqAll at h
    split at h
    · rename_i e; cases e
    · rename_i e
      cases e
      split at h
      · simp only [Option.map_eq_some_iff] at h
        obtain ⟨r', h1, _⟩ := h
        simp [ih h1]
      · cases h
    · rename_i e
      cases e
      split at h
      · simp only [Option.map_eq_some_iff] at h
        obtain ⟨r', h1, _⟩ := h
        simp [ih h1]
      · cases h
    · cases h

theorem run_equal_arr {P : Program} {w : World} {t : TypeId} {ti : TI} {b : Bool} {len esz : Nat} {g : Bool} {cs ds : List AV} {xs ys : Array Value} {r : Bool} (hT : TIok P t ti) (hk : ti.kind = .arr len esz g) (he : ti.eqk = some b) (hl : cs.length = len) (hx : xs.size = cs.length) (hy : ys.size = ds.length)
    (hcs : ∀ i x, i < cs.length → cs.getD i .any = .v x → xs.getD i undef = x) (hds : ∀ i x, i < ds.length → ds.getD i .any = .v x → ys.getD i undef = x) (h : eqAll b cs ds = some r) : (Op.equalIn 10000 t (.agg xs) (.agg ys)).run P w = .ok r w := by
  obtain ⟨h1, len1, e, j, h2, h3, h4, h5⟩ := hT.eq b he
  obtain ⟨_, _, d, _, _, g3, _, _, _, hkk⟩ := hT.i
  rw [hk] at hkk
  obtain ⟨e', rfl, _⟩ := hkk
  rw [h2] at g3
  injection g3 with g3
  injection g3 with g4 g5
  subst g4 g5
  have hlen := eqAll_len h
  have hc : P.cellsOf e = 1 := by simp [Program.cellsOf, h3, h4]
  rw [run_equalIn_array (d := 9999) (t := t) (e := e) (n := len1) (w := w) _ _ h2 h3, hc, List.range_eq_range']
  refine eqItems_ok 9998 h5 xs ys len1 0 cs ds r hl (by omega) (by omega) (fun _ _ _ _ => trivial) (fun i x hi hix => ?_) (fun i x hi hix => ?_) h
  · rw [Nat.zero_add]; exact hcs i x (by omega) hix
  · rw [Nat.zero_add]; exact hds i x (by omega) hix
theorem ok_eq_arr {neg : Bool} {t yt : TypeId} {ti : TI} {b : Bool} {len esz : Nat} {g : Bool} {x y : Operand} {cs ds : List AV} {r : Bool} (hT : TIok P t ti) (hk : ti.kind = .arr len esz g) (he : ti.eqk = some b) (ho : o.op = .binOp (if neg then .neq else .eql) t x y yt)
    (hx : σ.ev x = some (.agg cs)) (hy : σ.ev y = some (.agg ds)) (hl : cs.length = len) (h : eqAll b cs ds = some r) : CoreOk P o σ (.v (.bool (if neg then !r else r)), []) :=
  CoreOk.pure fun B G w a hr => by
    obtain ⟨xs, hxv, hxl, hx1, hxr⟩ := (hr.ev hx).agg_inv
    obtain ⟨ys, hyv, hyl, hy1, hyr⟩ := (hr.ev hy).agg_inv
    have hrun := run_equal_arr (P := P) (w := w) hT hk he hl hxl hyl (fun i x hi hix => by have := hxr i hi; rw [hix] at this; exact this.v_eq) (fun i x hi hix => by have := hyr i hi; rw [hix] at this; exact this.v_eq) h
    have hgd := (hT.eq b he).1
    refine ⟨_, ?_, .v _⟩
    unfold execOp
    rw [ho]
    cases neg
    · simp [hxv, hyv, run_eqGuard_agg w .eql t x y xs ys hgd, run_eql_struct, hrun]
    · simp [hxv, hyv, run_eqGuard_agg w .neq t x y xs ys hgd, run_neq_struct, hrun]

theorem ok_minmax {mx : Bool} {ts : Array TypeId} {x y : Operand} {k k' : IntKind} {a b : Int} (ho : o.op = .call { callee := .builtin (if mx then .max else .min), args := #[x, y], argTypes := ts }) (hx : σ.ev x = some (.v (.int k a))) (hy : σ.ev y = some (.v (.int k' b))) :
    CoreOk P o σ (.v (.int k (if mx then (if b > a then b else a) else (if b < a then b else a))), []) :=
  CoreOk.pure fun B G w ac hr => by
    have h1 := (hr.ev hx).v_eq
    have h2 := (hr.ev hy).v_eq
    refine ⟨_, ?_, .v _⟩
    unfold execOp
    rw [ho]
    cases mx
    · simp [resolve, invoke, builtin, h1, h2, run_min_int2]
    · simp [resolve, invoke, builtin, h1, h2, run_max_int2]
/-- A pointer against nil. -/
theorem ok_ptrnil {neg : Bool} {t yt : TypeId} {e : TypeId} {x : Operand} {av : AV} (hp : (∃ k e j, av = .ptr k e j) ∨ ∃ cs, av = .pt cs) (hu : P.underlying t = some (.pointer e)) (ho : o.op = .binOp (if neg then .neq else .eql) t x (.const (.pointer none)) yt) (hx : σ.ev x = some av) :
    CoreOk P o σ (.v (.bool neg), []) :=
  CoreOk.pure fun B G w a hr => by
    have h1 := hr.ev hx
    obtain ⟨ad, hv⟩ : ∃ ad, a.eval x = .pointer (some ad) := by
      rcases hp with ⟨k, e, j, rfl⟩ | ⟨cs, rfl⟩
      · obtain ⟨b, base, cap, sz, hl, hv⟩ := ptr_inv h1; exact ⟨_, hv⟩
      · obtain ⟨b, p, hv, _⟩ := pt_inv h1; exact ⟨_, hv⟩
    have heq : ∀ w, (Op.equal t (.pointer (some ad)) (.pointer none)).run P w = .ok false w := fun w => by
      show (Op.equalIn (9999 + 1) t _ _).run P w = _
      have : ∀ d, (Op.equalIn (d + 1) t (.pointer (some ad)) (.pointer none)).run P w = .ok false w := fun d => by
        simp only [Op.equalIn, Sem.run_bind, run_underlying hu, Result.andThen_ok, Sem.run_pure]
      exact this 9999
    have hc0 : a.eval (.const (.pointer none)) = .pointer none := rfl
    refine ⟨_, ?_, .v _⟩
    unfold execOp
    rw [ho]
    cases neg
    · simp [hv, hc0, eqGuard, binOp, heq]
    · simp [hv, hc0, eqGuard, binOp, heq]
theorem ok_nilnil {neg : Bool} {t yt : TypeId} {e : TypeId} {x : Operand} (hu : P.underlying t = some (.pointer e)) (ho : o.op = .binOp (if neg then .neq else .eql) t x (.const (.pointer none)) yt) (hx : σ.ev x = some (.v (.pointer none))) :
    CoreOk P o σ (.v (.bool (!neg)), []) :=
  CoreOk.pure fun B G w a hr => by
    have hv := (hr.ev hx).v_eq
    have heq : ∀ w, (Op.equal t (.pointer none) (.pointer none)).run P w = .ok true w := fun w => by
      show (Op.equalIn (9999 + 1) t _ _).run P w = _
      have : ∀ d, (Op.equalIn (d + 1) t (.pointer none) (.pointer none)).run P w = .ok true w := fun d => by
        simp only [Op.equalIn, Sem.run_bind, run_underlying hu, Result.andThen_ok, Sem.run_pure, Option.isNone_none]
      exact this 9999
    have hc0 : a.eval (.const (.pointer none)) = .pointer none := rfl
    refine ⟨_, ?_, .v _⟩
    unfold execOp
    rw [ho]
    cases neg
    · simp [hv, hc0, eqGuard, binOp, heq]
    · simp [hv, hc0, eqGuard, binOp, heq]

/-- Is a slice nil? -/
def nilA : AV → Option Bool
  | .v (.slice none _ _) => some true
  | .sl _ (_ :: _) => some false
  | .ref _ _ (_ + 1) => some false
  | _ => none
theorem nilA_ok {G : Gh} {av : AV} {v : Value} {b : Bool} (h : Rv G av v) (hn : nilA av = some b) : ∃ a n c, v = .slice a n c ∧ a.isNone = b := by
  unfold nilA at hn
  split at hn
  · cases hn; rw [h.v_eq]; exact ⟨none, _, _, rfl, rfl⟩
  · cases hn
    cases h with
    | sl _ _ a n c us hn hc hm h0 hz ha h1 hh =>
      obtain ⟨p, o, rfl, _⟩ := ha (by simp)
      exact ⟨_, _, _, rfl, rfl⟩
  · cases hn
    cases h with
    | ref _ _ _ blk base cap sz a hk hle hm hb h0 =>
      obtain ⟨p, _, rfl⟩ := hb (by omega)
      exact ⟨_, _, _, rfl, rfl⟩
  · cases hn
def isNilS : Operand → Bool
  | .const (.slice none 0 0) => true
  | _ => false
theorem isNilS_eq {y : Operand} (h : isNilS y = true) : y = .const (.slice none 0 0) := by
  unfold isNilS at h
  split at h
  · rfl
  · cases h
theorem eqItem_slice_nil {P : Program} {w : World} {t e : TypeId} {a : Option Addr} {l c : Nat} (h : P.underlying t = some (.slice e)) : (Op.equal t (.slice a l c) (.slice none 0 0)).run P w = .ok a.isNone w := by
  have : ∀ d, (Op.equalIn (d + 1) t (.slice a l c) (.slice none 0 0)).run P w = .ok a.isNone w := fun d => by
    cases a <;> simp [Op.equalIn, run_underlying h]
  exact this 9999
theorem ok_nilS {neg : Bool} {t yt : TypeId} {ti : TI} {e : TypeId} {esz eb : Nat} {ez : List Value} {x : Operand} {av : AV} {b : Bool} (hT : TIok P t ti) (hk : ti.kind = .slice e esz eb ez) (ho : o.op = .binOp (if neg then .neq else .eql) t x (.const (.slice none 0 0)) yt) (hx : σ.ev x = some av) (hn : nilA av = some b) :
    CoreOk P o σ (.v (.bool (if neg then !b else b)), []) :=
  CoreOk.pure fun B G w a hr => by
    obtain ⟨_, _, d, _, _, h3, _, _, _, hkk⟩ := hT.i
    rw [hk] at hkk
    obtain ⟨rfl, _⟩ := hkk
    obtain ⟨ad, n, c, hv, rfl⟩ := nilA_ok (hr.ev hx) hn
    have heq := fun w => eqItem_slice_nil (P := P) (w := w) (a := ad) (l := n) (c := c) h3
    have hc0 : a.eval (.const (.slice none 0 0)) = .slice none 0 0 := rfl
    refine ⟨_, ?_, .v _⟩
    unfold execOp
    rw [ho]
    cases neg
    · simp [hv, hc0, eqGuard, binOp, heq]
    · simp [hv, hc0, eqGuard, binOp, heq]
/-- A byte of a string. -/
theorem ok_idxStr {t : TypeId} {x y : Operand} {s : ByteArray} {k : IntKind} {z : Int} {b : UInt8} (hu : P.underlying t = some .string) (ho : o.op = .index t x y) (hx : σ.ev x = some (.v (.string s))) (hy : σ.ev y = some (.v (.int k z))) (h0 : 0 ≤ z) (hb : s[z.toNat]? = some b) :
    CoreOk P o σ (.v (.int .u8 b.toNat), []) :=
  CoreOk.pure fun B G w a hr => by
    have h1 := (hr.ev hx).v_eq
    have h2 := (hr.ev hy).v_eq
    refine ⟨_, ?_, .v _⟩
    unfold execOp
    rw [ho]
    simp [Instr.index, h1, h2, asIntOf, run_underlying hu, h0, hb]
/-- Append to a nil slice. -/
theorem ok_append_nil {t : TypeId} {ti : TI} {e : TypeId} {esz eb : Nat} {ez : List Value} {s x : Operand} {id : Nat} {av : AV} {ys : List (List AV)} (hT : TIok P t ti) (hk : ti.kind = .slice e esz eb ez)
    (ho : o.op = .call { callee := .builtin .append, args := #[s, x], argTypes := #[t, t] }) (hs : σ.ev s = some (.v (.slice none 0 0)))
    (hx : σ.ev x = some av) (hys : σ.rows esz av = some ys) (hb : ys.length * eb ≤ 140737488355328) (heb : 0 < eb) (hpos : 0 < ys.length) (hid : id ∉ σ.ids) :
    CoreOk P o σ (.ref id 0 ys.length, [(id, some ⟨e, esz, ys⟩)]) := by
  intro B G w a hr K Q hK
  obtain ⟨_, _, d, _, _, h3, _, _, _, hkk⟩ := hT.i
  rw [hk] at hkk
  obtain ⟨rfl, j, y, hj1, hj2, hj3, hj4, hj5⟩ := hkk
  obtain ⟨hezl, hezo⟩ := hT.ezero _ _ _ _ hk
  obtain ⟨ad2, m, c2, hxv, hm, had2, hrow, f, hf1, hf2⟩ := hr.rows (hr.ev hx) hys
  subst hm
  have hsv := (hr.ev hs).v_eq
  have hneed : ys.length ≤ 140737488355328 := by
    have : ys.length * 1 ≤ ys.length * eb := Nat.mul_le_mul_left _ heb
    omega
  obtain ⟨x2, hx2⟩ := had2 hpos
  subst hx2
  have hge := grownCap_ge w ys.length 0 e
  have hcapg : grownCap w ys.length 0 e ≤ 9223372036854775807 := by
    have := grownCap_le_maxLen w ys.length 0 e (by rw [maxLen_eq]; omega)
    rw [maxLen_eq] at this; exact this
  have hzs : ∀ q, (Builtin.zeroCells y.cells q).size = q * esz := fun q => by rw [size_zeroCells]; congr 1; rw [← hezl, ← hj5]; simp
  have hcat := cat_val (G := G) (n := 0) (m := ys.length) (sz := esz) (f0 := fun _ => undef) (f := f) (xs := []) (ys := ys) (z := Builtin.zeroCells y.cells (grownCap w ys.length 0 e - ys.length)) rfl rfl (fun i j hi => by omega) hf2
  rw [show ((List.range (0 * esz)).map fun _ => undef).toArray = #[] by simp, Array.empty_append, List.nil_append] at hcat
  obtain ⟨r1, r2⟩ := hr.new hid (t := e) (sz := esz) (cap := grownCap w ys.length 0 e) (xs := ys) (vs := ((List.range (ys.length * esz)).map f).toArray ++ Builtin.zeroCells y.cells (grownCap w ys.length 0 e - ys.length)) hge hcapg (by
      simp [hzs]
      rw [← Nat.add_mul]; exact Nat.mul_le_mul_right _ (by omega)) hrow hcat (w1 := w.drew) ⟨rfl, rfl, rfl, rfl⟩
  have hrun := run_append_nil (P := P) w t o.type e j y h3 hj1 hj4 x2 ys.length c2 ((List.range (ys.length * esz)).map f) (by simp [hj2]) (fun q u hq => by
      obtain ⟨h1, h2⟩ := range_get _ _ _ _ hq
      rw [hf1 x2 q rfl h1, h2]) hpos (by omega) (by rw [hj3]; omega)
  unfold Oper.wp
  have hop : (execOp a.eval o).run P w = .ok (.value (.slice (some ⟨w.heap.size, 0, none⟩) ys.length (grownCap w ys.length 0 e))) (w.drew.alloc (.cells (((List.range (ys.length * esz)).map f).toArray ++ Builtin.zeroCells y.cells (grownCap w ys.length 0 e - ys.length)) e)) := by
    unfold execOp
    rw [ho]
    simp [resolve, invoke, builtin, hsv, hxv, hrun]
  rw [hop]
  refine hK _ _ _ r1 r2 ?_
  have := Rv.ref (G := G.add id (some w.heap.size, 0, grownCap w ys.length 0 e, esz)) id 0 ys.length (some w.heap.size) 0 (grownCap w ys.length 0 e) esz (some ⟨w.heap.size, 0, none⟩) Gh.add_self (by omega) hcapg (fun _ => ⟨_, rfl, by simp⟩) (fun h => by cases h)
  simpa using this

/-- Make. -/
theorem ok_make {t : TypeId} {ti : TI} {e : TypeId} {esz eb : Nat} {ez : List Value} {x y : Operand} {k k' : IntKind} {n : Int} {id : Nat} (hT : TIok P t ti) (hk : ti.kind = .slice e esz eb ez) (ho : o.op = .makeSlice t x y) (hx : σ.ev x = some (.v (.int k n))) (hy : σ.ev y = some (.v (.int k' n)))
    (h0 : 0 ≤ n) (hb : (eb : Int) * n ≤ 281474976710656) (hn : n ≤ 9223372036854775807) (hes : 0 < esz) (hid : id ∉ σ.ids) : CoreOk P o σ (.ref id 0 n.toNat, [(id, some ⟨e, esz, List.replicate n.toNat (ez.map .v)⟩)]) := by
  intro B G w a hr K Q hK
  obtain ⟨_, _, d, _, _, h3, _, _, _, hkk⟩ := hT.i
  rw [hk] at hkk
  obtain ⟨rfl, j, z, hj1, hj2, hj3, hj4, hj5⟩ := hkk
  obtain ⟨hezl, hezo⟩ := hT.ezero _ _ _ _ hk
  have hxv := (hr.ev hx).v_eq
  have hyv := (hr.ev hy).v_eq
  have hrun := run_make (P := P) w t e j z h3 hj1 hj4 k k' n n h0 (Int.le_refl _) (by rw [hj3]; exact hb) hn
  rw [hj2] at hrun
  have hzc := zeros_cells (G := G) (n := n.toNat * esz) hj5 hezo (fun _ => by omega)
  have hmc : madeCells z.cells (n.toNat * esz) = (Array.range (n.toNat * esz)).map (z.cells[· % z.cells.size]!) := rfl
  obtain ⟨r1, r2⟩ := hr.new hid (t := e) (sz := esz) (cap := n.toNat) (xs := List.replicate n.toNat (ez.map .v)) (vs := madeCells z.cells (n.toNat * esz)) (by simp) (by omega) (by rw [size_madeCells]; exact Nat.le_refl _) (fun i hi => by
      simp only [List.length_replicate] at hi
      simp [List.getD, List.getElem?_replicate, hi, hezl]) (fun i c hi hc => by
      simp only [List.length_replicate] at hi
      have hq := dm_lt hi hc
      have hlen : (zeros ez (n.toNat * esz)).length = n.toNat * esz := by simp [zeros]
      rw [hmc]
      refine ⟨hzc.one _ (by omega), ?_⟩
      have h2 := hzc.rv (i * esz + c) (by omega)
      have e1 : (zeros ez (n.toNat * esz)).getD (i * esz + c) .any = ((List.replicate n.toNat (ez.map AV.v)).getD i []).getD c .any := by
        have hm : (i * esz + c) % esz = c := by rw [Nat.add_comm, Nat.add_mul_mod_self_right, Nat.mod_eq_of_lt hc]
        simp [zeros, List.getD, hq, hezl, hm, List.getElem?_replicate, hi, List.getElem?_eq_getElem (show c < ez.length by omega)]
      rw [e1] at h2
      exact h2) (w1 := w) ⟨rfl, rfl, rfl, rfl⟩
  unfold Oper.wp
  have hop : (execOp a.eval o).run P w = .ok (.value (.slice (some ⟨w.heap.size, 0, none⟩) n.toNat n.toNat)) (w.alloc (.cells (madeCells z.cells (n.toNat * esz)) e)) := by
    unfold execOp
    rw [ho]
    simp [hxv, hyv, hrun]
  rw [hop]
  refine hK _ _ _ r1 r2 ?_
  have := Rv.ref (G := G.add id (some w.heap.size, 0, n.toNat, esz)) id 0 n.toNat (some w.heap.size) 0 n.toNat esz (some ⟨w.heap.size, 0, none⟩) Gh.add_self (by omega) (by omega) (fun _ => ⟨_, rfl, by simp⟩) (fun h => by cases h)
  simpa using this

/-- Bounds of a slice expression, within the length. -/
def bndA (σ : AS) (n : Nat) (lo hi : Option Operand) : Option (Nat × Nat) :=
  match (match hi with
    | none => some n
    | some x => match σ.ev x with
      | some (.v (.int _ z)) => if 0 ≤ z ∧ z ≤ n then some z.toNat else none
      | _ => none) with
  | none => none
  | some h =>
    match lo with
    | none => some (0, h)
    | some x => match σ.ev x with
      | some (.v (.int _ z)) => if 0 ≤ z ∧ z ≤ h then some (z.toNat, h) else none
      | _ => none
theorem bndA_ok {B : Base} {G : Gh} {w : World} {a : Act} (hr : R B G σ w a) {n c l h : Nat} {lo hi : Option Operand} (hn : n ≤ c) (hb : bndA σ n lo hi = some (l, h)) : l ≤ h ∧ h ≤ n ∧ (Instr.sliceBounds true n c (lo.map a.eval) (hi.map a.eval) none).run P w = .ok (l, h, c) w := by
  unfold bndA at hb
  split at hb
  · cases hb
  · rename_i hh hhi
    have hH : hh ≤ n ∧ (∀ m, (match hi.map a.eval, (none : Option Value) with
      | some v, some _ => Instr.sliceBound v m .slice3B
      | some v, none => Instr.sliceBound v m (if true then .sliceAcap else .sliceAlen)
      | none, none => Pure.pure n
      | none, some _ => stuck "Slice: max without high" : Sem Nat) = (match hi.map a.eval with | some v => Instr.sliceBound v m .sliceAcap | none => Pure.pure n)) ∧ (match hi.map a.eval with | some v => Instr.sliceBound v c .sliceAcap | none => Pure.pure n : Sem Nat).run P w = .ok hh w := by
      cases hi with
      | none => simp only [Option.some.injEq] at hhi; subst hhi; exact ⟨Nat.le_refl _, fun _ => rfl, rfl⟩
      | some x =>
        simp only at hhi
        split at hhi
        · rename_i k z hz
          split at hhi
          · rename_i hc
            cases hhi
            have hv := (hr.ev hz).v_eq
            refine ⟨by omega, fun _ => rfl, ?_⟩
            simp only [Option.map_some, hv]
            exact run_sliceBound w k z c _ hc.1 (by omega)
          · cases hhi
        · cases hhi
    obtain ⟨h1, _, h3⟩ := hH
    cases lo with
    | none =>
      simp only [Option.some.injEq, Prod.mk.injEq] at hb
      obtain ⟨rfl, rfl⟩ := hb
      refine ⟨Nat.zero_le _, h1, ?_⟩
      cases hi with
      | none =>
        simp only [Option.map_none, Sem.run_pure, Result.ok.injEq, and_true] at h3
        simp [Instr.sliceBounds, h3]
      | some x =>
        simp only [Option.map_some] at h3
        simp [Instr.sliceBounds, h3]
    | some y =>
      simp only at hb
      split at hb
      · rename_i k z hz
        split at hb
        · rename_i hc
          cases hb
          have hv := (hr.ev hz).v_eq
          have h4 := run_sliceBound (P := P) w k z h .sliceB hc.1 hc.2
          refine ⟨by omega, h1, ?_⟩
          cases hi with
          | none =>
            simp only [Option.map_none, Sem.run_pure, Result.ok.injEq, and_true] at h3
            subst h3
            simp [Instr.sliceBounds, hv, h4]
          | some x =>
            simp only [Option.map_some] at h3
            simp [Instr.sliceBounds, h3, hv, h4]
        · cases hb
      · cases hb
theorem ok_slice_sl {t : TypeId} {ti : TI} {e : TypeId} {esz eb : Nat} {ez : List Value} {x : Operand} {lo hi : Option Operand} {xs : List (List AV)} {l h : Nat} (hT : TIok P t ti) (hk : ti.kind = .slice e esz eb ez) (ho : o.op = .slice t x lo hi none) (hx : σ.ev x = some (.sl esz xs)) (hb : bndA σ xs.length lo hi = some (l, h)) :
    CoreOk P o σ (.sl esz ((xs.drop l).take (h - l)), []) :=
  CoreOk.pure fun B G w a hr => by
    obtain ⟨_, _, d, _, _, h3, _, _, _, hkk⟩ := hT.i
    rw [hk] at hkk
    obtain ⟨rfl, j, z, hj1, hj2, hj3, hj4, hj5⟩ := hkk
    have hsz : ∀ w, (sizeOf e).run P w = .ok esz w := fun w => size_of_info hj1 hj2
    have hxv := hr.ev hx
    generalize hv : a.eval x = v at hxv
    cases hxv with
    | sl _ _ ad n c us hn hc hm h0 hz ha h1 hh =>
      subst hn
      obtain ⟨b1, b2, b3⟩ := bndA_ok (P := P) hr hc hb
      have hlen : ((xs.drop l).take (h - l)).length = h - l := by simp; omega
      have hrow : ∀ i, i < h - l → ((xs.drop l).take (h - l)).getD i [] = xs.getD (l + i) [] := fun i hi => by simp [List.getD, List.getElem?_take, hi, List.getElem?_drop]
      refine ⟨.slice (if c = l then ad else ad.map (·.add (l * esz))) (h - l) (c - l), ?_, .sl _ _ _ _ _ (fun i j => us (l + i) j) hlen.symm (by omega) (by omega) (fun e => ?_) (fun i hi => ?_) (fun hp => ?_) (fun i j hi hj => h1 _ _ (by omega) hj) (fun i j hi hj => ?_)⟩
      · unfold execOp
        rw [ho]
        simp only [Instr.sliceAt, hv, Option.map_none, Sem.run_bind, run_underlying h3, Result.andThen_ok, Instr.slice, b3, hsz, Sem.run_pure]
      · split at e
        · have := h0 e; omega
        · cases ad with
          | none => have := h0 rfl; omega
          | some _ => simp at e
      · rw [hlen] at hi; rw [hrow i hi]; exact hz _ (by omega)
      · rw [hlen] at hp
        obtain ⟨b, p, rfl, hs⟩ := ha (by omega)
        refine ⟨b, p + l * esz, by rw [if_neg (by omega)]; simp [Addr.add_lit], fun i j hi hj => ?_⟩
        rw [hlen] at hi
        have := hs (l + i) j (by omega) hj
        rw [← this]; congr 1; rw [Nat.add_mul]; omega
      · rw [hlen] at hi; rw [hrow i hi]; exact hh _ _ (by omega) hj
theorem ok_slice_ref {t : TypeId} {ti : TI} {e : TypeId} {esz eb : Nat} {ez : List Value} {x : Operand} {lo hi : Option Operand} {k off n l h : Nat} {ob : AObj} (hT : TIok P t ti) (hk : ti.kind = .slice e esz eb ez) (ho : o.op = .slice t x lo hi none) (hx : σ.ev x = some (.ref k off n)) (hob : lk σ.objs k = some ob) (hsz : ob.sz = esz) (hb : bndA σ n lo hi = some (l, h)) :
    CoreOk P o σ (.ref k (off + l) (h - l), []) :=
  CoreOk.pure fun B G w a hr => by
    obtain ⟨_, _, d, _, _, h3, _, _, _, hkk⟩ := hT.i
    rw [hk] at hkk
    obtain ⟨rfl, j, z, hj1, hj2, hj3, hj4, hj5⟩ := hkk
    have hsz' : ∀ w, (sizeOf e).run P w = .ok esz w := fun w => size_of_info hj1 hj2
    have hxv := hr.ev hx
    generalize hv : a.eval x = v at hxv
    cases hxv with
    | ref _ _ _ blk base cap sz ad hl hle hcm hb' h0 =>
      obtain ⟨blk', ba, ca, g1, _⟩ := hr.heap.obj k ob hob
      rw [hl] at g1
      cases g1
      subst hsz
      obtain ⟨b1, b2, b3⟩ := bndA_ok (P := P) hr (show n ≤ cap - off by omega) hb
      have e0 : cap - off - l = cap - (off + l) := by omega
      refine ⟨.slice (if cap - off = l then ad else ad.map (·.add (l * ob.sz))) (h - l) (cap - (off + l)), ?_, .ref k (off + l) (h - l) blk base cap ob.sz _ hl (by omega) hcm (fun hlt => ?_) (fun e => ?_)⟩
      · unfold execOp
        rw [ho]
        simp only [Instr.sliceAt, hv, Option.map_none, Sem.run_bind, run_underlying h3, Result.andThen_ok, Instr.slice, b3, hsz', Sem.run_pure, e0]
      · obtain ⟨b, rfl, rfl⟩ := hb' (by omega)
        refine ⟨b, rfl, ?_⟩
        rw [if_neg (by omega)]
        simp only [Option.map_some, Addr.add_lit, Option.some.injEq, Addr.mk.injEq, true_and, and_true]
        rw [Nat.add_mul]; omega
      · split at e
        · have := h0 e; omega
        · cases ad with
          | none => have := h0 rfl; omega
          | some _ => simp at e
end ops

/-! ### Calls -/
section calls
variable {P : Program} {σ : AS} {o : Oper}
def AS.evs (σ : AS) : List Operand → Option (List AV)
  | [] => some []
  | x :: r => match σ.ev x, σ.evs r with
    | some a, some l => some (a :: l)
    | _, _ => none
theorem R.evs {B : Base} {G : Gh} {w : World} {a : Act} (hr : R B G σ w a) : ∀ {xs : List Operand} {l : List AV}, σ.evs xs = some l → l.length = xs.length ∧ ∀ i, i < l.length → Rv G (l.getD i .any) ((xs.map a.eval).getD i undef)
  | [], l, h => by simp only [AS.evs, Option.some.injEq] at h; subst h; exact ⟨rfl, fun i hi => by simp at hi⟩
  | x :: r, l, h => by
    simp only [AS.evs] at h
    split at h
    · rename_i av l' hx hl
      cases h
      obtain ⟨h1, h2⟩ := hr.evs hl
      refine ⟨by simp [h1], fun j hj => ?_⟩
      cases j with
      | zero => simpa using hr.ev hx
      | succ j => simpa using h2 j (by simpa using hj)
    · cases h
/-- It is a function with a body. -/
def fnB (P : Program) (f : FuncId) : Bool := match P.funcs[f]? with
  | some fn => !(fn.name == "runtime.NumGoroutine") && fn.body.isSome
  | none => false
theorem run_callFunc {f : FuncId} (h : fnB P f = true) (args : Array Value) (w : World) : (callFunc f args).run P w = .ok (.enter f args) w := by
  unfold fnB at h
  split at h
  · rename_i fn hf
    simp only [Bool.and_eq_true, Bool.not_eq_true', Option.isSome_iff_exists] at h
    obtain ⟨h1, c, hc⟩ := h
    have h1' : fn.name ≠ "runtime.NumGoroutine" := by simpa using h1
    simp [callFunc, hf, h1', hc]
  · cases h
/-- The operation enters a function with these arguments. -/
def Enters (P : Program) (o : Oper) (σ : AS) (f : FuncId) (avs : List AV) : Prop := ∀ (B : Base) (G : Gh) (w : World) (a : Act), R B G σ w a → ∃ argv : Array Value, (execOp a.eval o).run P w = .ok (.enter f argv) w ∧ argv.size = avs.length ∧ ∀ i, i < avs.length → Rv G (avs.getD i .any) (argv.getD i undef)
/-- A function value. -/
def AS.callee (σ : AS) (x : Operand) : Option (FuncId × List AV) :=
  match σ.ev x with
  | some (.v (.func (.func f) first caps)) => if first.size = 0 ∧ caps.size = 0 then some (f, []) else none
  | some (.clo f cs) => some (f, cs)
  | _ => none
theorem callee_ok {B : Base} {G : Gh} {w : World} {a : Act} (hr : R B G σ w a) {x : Operand} {f : FuncId} {cs : List AV} (h : σ.callee x = some (f, cs)) : ∃ us : List Value, a.eval x = .func (.func f) #[] us.toArray ∧ us.length = cs.length ∧ ∀ i, i < cs.length → Rv G (cs.getD i .any) (us.getD i undef) := by
  unfold AS.callee at h
  split at h
  · rename_i f' first caps hx
    split at h
    · rename_i hc
      cases h
      have h1 := (hr.ev hx).v_eq
      rw [Array.eq_empty_of_size_eq_zero hc.1, Array.eq_empty_of_size_eq_zero hc.2] at h1
      exact ⟨[], h1, rfl, fun i hi => by simp at hi⟩
    · cases h
  · rename_i f' cs' hx
    cases h
    have h1 := hr.ev hx
    generalize a.eval x = v at h1
    cases h1 with
    | clo _ _ us hl h2 => exact ⟨us, rfl, hl, h2⟩
  · cases h
theorem enters_ok {x : Operand} {f : FuncId} {args : Array Operand} {ts : Array TypeId} {avs cs : List AV} (ho : o.op = .call { callee := .value x, args := args, argTypes := ts }) (hfn : fnB P f = true) (hx : σ.callee x = some (f, cs)) (hargs : σ.evs args.toList = some avs) : Enters P o σ f (avs ++ cs) := by
  intro B G w a hr
  obtain ⟨h1, h2⟩ := hr.evs hargs
  obtain ⟨us, h3, h4, h5⟩ := callee_ok hr hx
  refine ⟨args.map a.eval ++ us.toArray, ?_, by simp [h4, h1], fun i hi => ?_⟩
  · unfold execOp
    rw [ho]
    simp only [resolve, h3, Deferred.ofValue, invoke, Sem.run_bind, Sem.run_pure, Result.andThen_ok, run_callFunc hfn]
    simp
  · by_cases hlt : i < avs.length
    · have := h2 i (by omega)
      have e1 : (avs ++ cs).getD i .any = avs.getD i .any := by simp [List.getD, List.getElem?_append_left hlt]
      have e2 : (args.map a.eval ++ us.toArray).getD i undef = (args.toList.map a.eval).getD i undef := by
        have hsz : args.size = avs.length := by simpa using h1.symm
        rw [Array.getD_eq_getD_getElem?, Array.getElem?_append_left (show i < (args.map a.eval).size by simp; omega)]
        simp [List.getD]
      rw [e1, e2]; exact this
    · have hsz : args.size = avs.length := by simpa using h1.symm
      have := h5 (i - avs.length) (by simp at hi; omega)
      have e1 : (avs ++ cs).getD i .any = cs.getD (i - avs.length) .any := by simp [List.getD, List.getElem?_append_right (by omega : avs.length ≤ i)]
      have e2 : (args.map a.eval ++ us.toArray).getD i undef = us.getD (i - avs.length) undef := by
        simp [List.getD, Array.getD_eq_getD_getElem?, Array.getElem?_append_right (show (args.map a.eval).size ≤ i by simp; omega), hsz]
      rw [e1, e2]; exact this
theorem ok_call {f : FuncId} {avs : List AV} {res : AV} (hen : Enters P o σ f avs) (hp : idsL avs = []) (hF : FnPure P f avs res) : CoreOk P o σ (res, []) := by
  intro B G w a hr K Q hK
  obtain ⟨argv, hop, h1, h2⟩ := hen B G w a hr
  unfold Oper.wp
  rw [hop]
  have hc := hF G.S w argv hr.heap.st h1 (fun i hi => by
    have h3 := Rv.pure (G := G) (G' := G0 G.S) (fun _ _ _ h => h) (h2 i hi) (by
      refine List.eq_nil_iff_forall_not_mem.2 fun q hq => ?_
      have := idsL_mem hi hq
      rw [hp] at this; cases this)
    exact h3)
  refine Calls.mono hc fun e w' hl => ?_
  obtain ⟨v, S', rfl, hb, g1, g2, g3, g4⟩ := hl
  obtain ⟨r1, r2⟩ := hr.after hb g1 g2 g3
  exact hK _ _ _ r1 r2 (Rv.mono (G := G0 S') (G' := ⟨S', G.loc⟩) ⟨fun _ _ _ h => h, fun _ _ h => by cases h⟩ g4)
theorem ok_call_borrow {f : FuncId} {avs bvs : List AV} {res : AV} (hen : Enters P o σ f avs) (hp : σ.shutM (fun _ => true) avs = some bvs) (hF : FnPure P f bvs res) (hs : res.scalar = true) : CoreOk P o σ (res, []) := by
  intro B G w a hr K Q hK
  obtain ⟨argv, hop, h1, h2⟩ := hen B G w a hr
  unfold Oper.wp
  rw [hop]
  obtain ⟨h3, h4⟩ := shutM_ok hr (D := fun _ => true) (T := fun b p => w.cell? ⟨b, p, none⟩) (L := fun _ => none) hr.heap.st (fun k ob b x p u _ _ _ h => h) (fun i => argv.getD i undef) h2 hp
  have hc := hF (fun b p => w.cell? ⟨b, p, none⟩) w argv (fun _ _ _ h => h) (by omega) (fun i hi => h4 i (by omega))
  refine Calls.mono hc fun e w' hl => ?_
  obtain ⟨v, S', rfl, hb, g1, g2, g3, g4⟩ := hl
  obtain ⟨r1, r2⟩ := hr.after (S' := G.S) hb (fun _ _ _ h => h) (fun b p u h => by
    have := hr.heap.st b p u h
    exact (hb.cell (World.block_lt_of_cell? _ _ this)).trans this) (fun _ _ _ h => .inl h)
  exact hK _ _ _ r1 r2 (g4.scalar hs)
theorem ok_call_fresh {f : FuncId} {avs bvs : List AV} {res : AV} (hen : Enters P o σ f avs) (hp : σ.shutM (fun _ => true) avs = some bvs) (hF : FnFresh P f bvs res) : CoreOk P o σ (res, []) := by
  intro B G w a hr K Q hK
  obtain ⟨argv, hop, h1, h2⟩ := hen B G w a hr
  unfold Oper.wp
  rw [hop]
  obtain ⟨h3, h4⟩ := shutM_ok hr (D := fun _ => true) (T := fun b p => w.cell? ⟨b, p, none⟩) (L := fun _ => none) hr.heap.st (fun k ob b x p u _ _ _ h => h) (fun i => argv.getD i undef) h2 hp
  have hc := hF (fun b p => w.cell? ⟨b, p, none⟩) w argv (fun _ _ _ h => h) (by omega) (fun i hi => h4 i (by omega))
  refine Calls.mono hc fun e w' hl => ?_
  obtain ⟨v, rfl, hb, g4⟩ := hl
  have hlt : ∀ b p u, G.S b p = some u → b < w.heap.size := fun b p u h => World.block_lt_of_cell? _ _ (hr.heap.st b p u h)
  obtain ⟨r1, r2⟩ := hr.after (S' := fun b p => if b < w.heap.size then G.S b p else w'.cell? ⟨b, p, none⟩) hb (fun b p u h => by
      show (if b < w.heap.size then _ else _) = _
      rw [if_pos (hlt b p u h)]; exact h) (fun b p u h => by
      replace h : (if b < w.heap.size then G.S b p else w'.cell? ⟨b, p, none⟩) = some u := h
      split at h
      · rename_i hl; exact (hb.cell hl).trans (hr.heap.st b p u h)
      · exact h) (fun b p u h => by
      replace h : (if b < w.heap.size then G.S b p else w'.cell? ⟨b, p, none⟩) = some u := h
      split at h
      · exact .inl h
      · exact .inr (by omega))
  refine hK _ _ _ r1 r2 (Rv.mono (G := G0 (newS (fun b o => w'.cell? ⟨b, o, none⟩) w.heap.size)) (G' := ⟨fun b p => if b < w.heap.size then G.S b p else w'.cell? ⟨b, p, none⟩, G.loc⟩) ⟨fun b p u h => ?_, fun _ _ h => by cases h⟩ g4)
  simp only [G0, newS] at h ⊢
  split at h
  · cases h
  · rename_i hn; rw [if_neg hn]; exact h
end calls
end Go.Proofs.Ytkollnaojpppcaa
