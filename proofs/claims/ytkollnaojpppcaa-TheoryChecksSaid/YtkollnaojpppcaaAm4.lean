/- An abstract machine for the text, part four: operations that read; plain lemmas over any program; no condition. -/
import Derived.Test.YtkollnaojpppcaaAm3
namespace Go.Proofs.Ytkollnaojpppcaa
open Go.RowKit

section reads
variable {P : Program} {σ : AS} {o : Oper} {TT : TTab}

theorem ok_move {x : Operand} {av : AV} (ho : o.op = .move x ∨ o.op = .assign x) (hx : σ.ev x = some av) : CoreOk P o σ (av, []) :=
  CoreOk.pure fun B G w a hr => ⟨a.eval x, by unfold execOp; rcases ho with ho | ho <;> rw [ho] <;> rfl, hr.ev hx⟩
theorem ok_pick {c x y : Operand} {t : Bool} {av : AV} (ho : o.op = .pick c x y) (hc : σ.ev c = some (.v (.bool t))) (hx : σ.ev (if t then x else y) = some av) : CoreOk P o σ (av, []) :=
  CoreOk.pure fun B G w a hr => by
    refine ⟨a.eval (if t then x else y), ?_, hr.ev hx⟩
    have h1 := (hr.ev hc).v_eq
    unfold execOp
    rw [ho]
    simp only [h1, asBool]
    cases t <;> rfl
theorem ok_bin {op : BinOp} {t yt : TypeId} {x y : Operand} {u v r : Value} {d : Option TypeDesc} (ho : o.op = .binOp op t x y yt) (hx : σ.ev x = some (.v u)) (hy : σ.ev y = some (.v v)) (hd : ∀ e, d = some e → P.underlying t = some e) (h : sc2 d op u v = some r) :
    CoreOk P o σ (.v r, []) :=
  CoreOk.pure fun B G w a hr => by
    refine ⟨r, ?_, .v _⟩
    have h1 := (hr.ev hx).v_eq
    have h2 := (hr.ev hy).v_eq
    unfold execOp
    rw [ho]
    simp only [h1, h2]
    have := sc2_ok (x := x) (y := y) hd h w
    rw [Sem.run_bind, this]; rfl
def sc1 (op : UnOp) (x : Value) : Option Value :=
  match op, x with
  | .neg, .int k n => some (.int k (k.wrap (0 - n)))
  | .not, .bool b => some (.bool !b)
  | .xor, .int k n => some (.int k (k.wrap (BitVec.ofInt k.bits (if k.signed then -1 else k.max) ^^^ BitVec.ofInt k.bits n).toNat))
  | _, _ => none
theorem ok_un {op : UnOp} {t : TypeId} {x : Operand} {u r : Value} (ho : o.op = .unOp op t x) (hx : σ.ev x = some (.v u)) (h : sc1 op u = some r) : CoreOk P o σ (.v r, []) :=
  CoreOk.pure fun B G w a hr => by
    refine ⟨r, ?_, .v _⟩
    have h1 := (hr.ev hx).v_eq
    unfold execOp
    rw [ho]
    simp only [h1]
    unfold sc1 at h
    split at h <;> first | (cases h; rfl) | (cases h)
theorem ok_conv {s t : TypeId} {k : IntKind} {x : Operand} {k0 : IntKind} {n : Int} {d : TypeDesc} (ho : o.op = .convert s t x) (hx : σ.ev x = some (.v (.int k0 n))) (hs : P.underlying s = some d) (ht : P.underlying t = some (.int k)) : CoreOk P o σ (.v (.int k (k.wrap n)), []) :=
  CoreOk.pure fun B G w a hr => by
    refine ⟨_, ?_, .v _⟩
    have h1 := (hr.ev hx).v_eq
    unfold execOp
    rw [ho]
    simp [h1, convert, run_underlying hs, run_underlying ht, Conv.intToInt]
theorem ok_extract {x : Operand} {i : Nat} {cs : List AV} {av : AV} (ho : o.op = .extract x i) (hx : σ.ev x = some (.tup cs)) (hi : cs[i]? = some av) : CoreOk P o σ (av, []) :=
  CoreOk.pure fun B G w a hr => by
    have h1 := hr.ev hx
    obtain ⟨hlt, rfl⟩ := List.getElem?_eq_some_iff.1 hi
    generalize hv : a.eval x = v at h1
    cases h1 with
    | tup _ us hl h =>
      refine ⟨us.getD i undef, ?_, by simpa [List.getD, hlt] using h i hlt⟩
      unfold execOp
      rw [ho]
      simp [hv, Instr.extract, List.getD, show i < us.length by omega]
theorem ok_fieldv {t : TypeId} {x : Operand} {i off sz : Nat} {g : Bool} {cs : List AV} {ti : TI} {fs : List (Nat × Nat × Bool)} (hTI : TIok P t ti) (hk : ti.kind = .strct fs) (hf : fs[i]? = some (off, sz, g))
    (ho : o.op = .field t x i) (hx : σ.ev x = some (.agg cs)) (hle : off + sz ≤ cs.length) (h1 : g = false → sz = 1) : CoreOk P o σ (if g then .agg ((cs.drop off).take sz) else cs.getD off .any, []) :=
  CoreOk.pure fun B G w a hr => by
    obtain ⟨arr, hv, hl, hone, h⟩ := (hr.ev hx).agg_inv
    obtain ⟨_, z, d, _, _, h3, _, _, _, hkk⟩ := hTI.i
    rw [hk] at hkk
    obtain ⟨fields, rfl, _, hfl⟩ := hkk
    obtain ⟨fl, hff, hoff, ⟨j, hj1, hj2⟩, e, he1, he2⟩ := hfl i off sz g hf
    subst hoff
    have hsz : ∀ w, (sizeOf fl.type).run P w = .ok sz w := fun w => size_of_info hj1 hj2
    have hag : ∀ w, (isAgg fl.type).run P w = .ok g w := fun w => agg_of_under he1 he2
    cases g with
    | true =>
      refine ⟨.agg (arr.extract fl.offset (fl.offset + sz)), ?_, ?_⟩
      · unfold execOp
        rw [ho]
        simp [hv, Instr.field, run_underlying h3, hff, asAgg, part, hag, hsz]
      · rw [if_pos rfl]
        refine Rv.agg' (by simp; omega) (fun u hu => hone u ?_) (fun k hk => ?_)
        · rw [Array.mem_iff_getElem?] at hu ⊢
          obtain ⟨k, hk⟩ := hu
          rw [Array.getElem?_extract] at hk
          split at hk
          · exact ⟨_, hk⟩
          · cases hk
        · have hk' : k < sz := by simp at hk; omega
          have := h (fl.offset + k) (by omega)
          simpa [List.getD, Array.getElem?_extract, hk', show fl.offset + k < cs.length by omega, show fl.offset + k < arr.size by omega, show k < min (fl.offset + sz) arr.size - fl.offset by omega] using this
    | false =>
      have hs1 := h1 rfl
      refine ⟨arr.getD fl.offset undef, ?_, by rw [if_neg (by simp)]; exact h _ (by omega)⟩
      unfold execOp
      rw [ho]
      simp [hv, Instr.field, run_underlying h3, hff, asAgg, part, hag, show fl.offset < arr.size by omega]
end reads
end Go.Proofs.Ytkollnaojpppcaa
