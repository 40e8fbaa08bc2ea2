/- An abstract machine for the text, part five: addresses and loads; plain lemmas over any program; no condition. -/
import Derived.Test.YtkollnaojpppcaaAm4
namespace Go.Proofs.Ytkollnaojpppcaa
open Go.RowKit

section reads
variable {P : Program} {σ : AS} {o : Oper} {TT : TTab}

/-- What a live object holds in memory. -/
theorem R.cellsOf {B : Base} {G : Gh} {w : World} {a : Act} (hr : R B G σ w a) {k e j : Nat} {ob : AObj} (ho : lk σ.objs k = some ob) {b base cap sz : Nat} (hl : G.loc k = some (some b, base, cap, sz)) (he : e < ob.xs.length) (hj : j < ob.sz) :
    sz = ob.sz ∧ ∃ u, w.cell? ⟨b, base + (e * ob.sz + j), none⟩ = some u ∧ w.frozen? ⟨b, base + (e * ob.sz + j), none⟩ = false ∧ u.oneCell' = true ∧ Rv G ((ob.xs.getD e []).getD j .any) u := by
  obtain ⟨blk, ba, ca, h1, h2, h3, h4, h5⟩ := hr.heap.obj k ob ho
  rw [hl] at h1
  cases h1
  obtain ⟨vs, h6, h7, h8⟩ := h5
  obtain ⟨h9, h10⟩ := h8 e j he hj
  have hlt : base + (e * ob.sz + j) < vs.size := by
    have : (e + 1) * ob.sz ≤ cap * ob.sz := Nat.mul_le_mul_right _ (by omega)
    rw [Nat.add_mul] at this; omega
  refine ⟨rfl, vs[base + (e * ob.sz + j)], by simp [World.cell?, h6, hlt], by simp [World.frozen?, h6], ?_, ?_⟩
  · simpa [Array.getD, hlt] using h9
  · simpa [Array.getD, hlt] using h10

theorem ptr_inv {G : Gh} {k e j : Nat} {u : Value} (h : Rv G (.ptr k e j) u) : ∃ b base cap sz, G.loc k = some (some b, base, cap, sz) ∧ u = .pointer (some ⟨b, base + (e * sz + j), none⟩) := by
  cases h with
  | ptr _ _ _ b base cap sz hk => exact ⟨b, base, cap, sz, hk, rfl⟩
theorem pt_inv {G : Gh} {cs : List AV} {u : Value} (h : Rv G (.pt cs) u) : ∃ b o, u = .pointer (some ⟨b, o, none⟩) ∧ ∃ us : Nat → Value, (∀ j, j < cs.length → G.S b (o + j) = some (us j)) ∧ (∀ j, j < cs.length → (us j).oneCell' = true) ∧ ∀ j, j < cs.length → Rv G (cs.getD j .any) (us j) := by
  cases h with
  | pt _ b o us hS h1 h => exact ⟨b, o, rfl, us, hS, h1, h⟩

/-- What is loaded out of cells. -/
def ldA (ti : TI) (cs : List AV) : AV := if ti.agg then .agg (cs.take ti.size) else cs.getD 0 .any
theorem run_loadCellsAt (P : Program) (w : World) (b o n : Nat) (f : Nat → Value) (h : ∀ j, j < n → w.cell? ⟨b, o + j, none⟩ = some (f j)) : (loadCells ⟨b, o, none⟩ n).run P w = .ok ((List.range n).map f).toArray w :=
  run_loadCells w ⟨b, o, none⟩ n f (fun j hj => by rw [Addr.add_lit]; exact h j hj)
theorem run_loadVarAt {t : TypeId} {ti : TI} (hT : TIok P t ti) {G : Gh} {w : World} {b o : Nat} {cs : List AV} (hc : ∀ j, j < ti.size → ∃ u, w.cell? ⟨b, o + j, none⟩ = some u ∧ u.oneCell' = true ∧ Rv G (cs.getD j .any) u) :
    ∃ u, (loadVar t ⟨b, o, none⟩).run P w = .ok u w ∧ (cs.length < ti.size ∨ Rv G (ldA ti cs) u) := by
  have hcs : ∀ j, ∃ u, j < ti.size → w.cell? ⟨b, o + j, none⟩ = some u ∧ u.oneCell' = true ∧ Rv G (cs.getD j .any) u := fun j => by
    by_cases hj : j < ti.size
    · obtain ⟨u, hu⟩ := hc j hj; exact ⟨u, fun _ => hu⟩
    · exact ⟨undef, fun h => absurd h hj⟩
  obtain ⟨f, hf⟩ := Classical.axiomOfChoice hcs
  unfold ldA
  cases hg : ti.agg with
  | true =>
    refine ⟨.agg ((List.range ti.size).map f).toArray, ?_, ?_⟩
    · simp [loadVar, hT.run_agg, hg, hT.run_size, run_loadCellsAt P w b o ti.size f (fun j hj => (hf j hj).1)]
    · by_cases hl : cs.length < ti.size
      · exact .inl hl
      · right
        rw [if_pos rfl]
        refine .agg _ _ (by simp; omega) (fun u hu => ?_) (fun i hi => ?_)
        · simp only [List.mem_map, List.mem_range] at hu
          obtain ⟨j, hj, rfl⟩ := hu
          exact (hf j hj).2.1
        · have hi' : i < ti.size := by simp at hi; omega
          have := (hf i hi').2.2
          simpa [List.getD, List.getElem?_take, hi'] using this
  | false =>
    have hs := hT.plain hg
    refine ⟨f 0, ?_, .inr ?_⟩
    · have := (hf 0 (by omega)).1
      simp only [Nat.add_zero] at this
      simp [loadVar, hT.run_agg, hg, run_load, this]
    · rw [if_neg (by simp)]; exact (hf 0 (by omega)).2.2

theorem ok_load_ptr {t : TypeId} {x : Operand} {ti : TI} {k e j : Nat} {ob : AObj} (hT : TIok P t ti) (ho : o.op = .load t x) (hx : σ.ev x = some (.ptr k e j)) (hk : lk σ.objs k = some ob) (he : e < ob.xs.length) (hj : j + ti.size ≤ ob.sz) :
    CoreOk P o σ (ldA ti ((ob.xs.getD e []).drop j), []) :=
  CoreOk.pure fun B G w a hr => by
    obtain ⟨b, base, cap, sz, hl, hv⟩ := ptr_inv (hr.ev hx)
    obtain ⟨blk, ba, ca, h1, h2, h3, h4, h5⟩ := hr.heap.obj k ob hk
    have hlen := h4 e he
    have hsz : sz = ob.sz := by rw [hl] at h1; cases h1; rfl
    subst hsz
    obtain ⟨u, h6, h7⟩ := run_loadVarAt (P := P) hT (G := G) (w := w) (b := b) (o := base + (e * ob.sz + j)) (cs := (ob.xs.getD e []).drop j) (fun i hi => by
      obtain ⟨_, u, g1, _, g2, g3⟩ := hr.cellsOf hk hl he (j := j + i) (by omega)
      exact ⟨u, by rw [← g1]; congr 2; omega, g2, by simpa [List.getD, List.getElem?_drop] using g3⟩)
    refine ⟨u, ?_, h7.resolve_left (by rw [List.length_drop, hlen]; omega)⟩
    unfold execOp
    rw [ho]
    simp [hv, Instr.loadAt, Instr.sureAddr, h6]
theorem ok_load_pt {t : TypeId} {x : Operand} {ti : TI} {cs : List AV} (hT : TIok P t ti) (ho : o.op = .load t x) (hx : σ.ev x = some (.pt cs)) (hj : ti.size ≤ cs.length) : CoreOk P o σ (ldA ti cs, []) :=
  CoreOk.pure fun B G w a hr => by
    obtain ⟨b, p, hv, us, h1, h2, h3⟩ := pt_inv (hr.ev hx)
    obtain ⟨u, h6, h7⟩ := run_loadVarAt (P := P) hT (G := G) (w := w) (b := b) (o := p) (cs := cs) (fun i hi => ⟨us i, hr.heap.st _ _ _ (h1 i (by omega)), h2 i (by omega), h3 i (by omega)⟩)
    refine ⟨u, ?_, h7.resolve_left (by omega)⟩
    unfold execOp
    rw [ho]
    simp [hv, Instr.loadAt, Instr.sureAddr, h6]

theorem ok_faddr_ptr {t : TypeId} {x : Operand} {i off sz : Nat} {g : Bool} {ti : TI} {fs : List (Nat × Nat × Bool)} {k e j : Nat} (hT : TIok P t ti) (hk : ti.kind = .strct fs) (hf : fs[i]? = some (off, sz, g)) (h0 : sz ≠ 0)
    (ho : o.op = .fieldAddr t x i) (hx : σ.ev x = some (.ptr k e j)) : CoreOk P o σ (.ptr k e (j + off), []) :=
  CoreOk.pure fun B G w a hr => by
    obtain ⟨b, base, cap, sz', hl, hv⟩ := ptr_inv (hr.ev hx)
    obtain ⟨_, z, d, _, _, h3, _, _, _, hkk⟩ := hT.i
    rw [hk] at hkk
    obtain ⟨fields, rfl, _, hfl⟩ := hkk
    obtain ⟨fl, hff, hoff, ⟨jj, hj1, hj2⟩, _⟩ := hfl i off sz g hf
    subst hoff
    have hsz : ∀ w, (sizeOf fl.type).run P w = .ok sz w := fun w => size_of_info hj1 hj2
    refine ⟨.pointer (some ⟨b, base + (e * sz' + (j + fl.offset)), none⟩), ?_, .ptr k e (j + fl.offset) b base cap sz' hl⟩
    unfold execOp
    rw [ho]
    simp [hv, Instr.fieldAt, run_underlying h3, hff, Instr.sureAddr, fieldPlace, hsz, h0, Addr.add_lit]
    try omega
theorem ok_faddr_pt {t : TypeId} {x : Operand} {i off sz : Nat} {g : Bool} {ti : TI} {fs : List (Nat × Nat × Bool)} {cs : List AV} (hT : TIok P t ti) (hk : ti.kind = .strct fs) (hf : fs[i]? = some (off, sz, g)) (h0 : sz ≠ 0)
    (ho : o.op = .fieldAddr t x i) (hx : σ.ev x = some (.pt cs)) : CoreOk P o σ (.pt (cs.drop off), []) :=
  CoreOk.pure fun B G w a hr => by
    obtain ⟨b, p, hv, us, h1, h2, h4⟩ := pt_inv (hr.ev hx)
    obtain ⟨_, z, d, _, _, h3, _, _, _, hkk⟩ := hT.i
    rw [hk] at hkk
    obtain ⟨fields, rfl, _, hfl⟩ := hkk
    obtain ⟨fl, hff, hoff, ⟨jj, hj1, hj2⟩, _⟩ := hfl i off sz g hf
    subst hoff
    have hsz : ∀ w, (sizeOf fl.type).run P w = .ok sz w := fun w => size_of_info hj1 hj2
    refine ⟨.pointer (some ⟨b, p + fl.offset, none⟩), ?_, .pt _ b (p + fl.offset) (fun j => us (fl.offset + j)) (fun j hj => ?_) (fun j hj => ?_) (fun j hj => ?_)⟩
    · unfold execOp
      rw [ho]
      simp [hv, Instr.fieldAt, run_underlying h3, hff, Instr.sureAddr, fieldPlace, hsz, h0, Addr.add_lit]
    · have := h1 (fl.offset + j) (by simp at hj; omega)
      rw [← this]; congr 1; omega
    · exact h2 _ (by simp at hj; omega)
    · have := h4 (fl.offset + j) (by simp at hj; omega)
      simpa [List.getD, List.getElem?_drop] using this

/-- An index that fits. -/
def ixOk (i : Value) (n : Nat) : Option Nat :=
  match i with
  | .int _ z => if 0 ≤ z ∧ z < n then some z.toNat else none
  | _ => none
theorem ixOk_inv {i : Value} {n m : Nat} (h : ixOk i n = some m) : ∃ k z, i = .int k z ∧ 0 ≤ z ∧ z < n ∧ z.toNat = m := by
  unfold ixOk at h
  split at h
  · rename_i k z
    split at h
    · rename_i hc; cases h; exact ⟨k, z, rfl, hc.1, hc.2, rfl⟩
    · cases h
  · cases h

theorem ok_iaddr_sl {t : TypeId} {x y : Operand} {ti : TI} {e : TypeId} {esz eb : Nat} {ez : List Value} {xs : List (List AV)} {i : Value} {m : Nat} (hT : TIok P t ti) (hk : ti.kind = .slice e esz eb ez)
    (ho : o.op = .indexAddr t x y) (hx : σ.ev x = some (.sl esz xs)) (hy : σ.ev y = some (.v i)) (hm : ixOk i xs.length = some m) : CoreOk P o σ (.pt (xs.getD m []), []) :=
  CoreOk.pure fun B G w a hr => by
    obtain ⟨k, z, rfl, hz0, hz1, rfl⟩ := ixOk_inv hm
    have hyv := (hr.ev hy).v_eq
    have hxv := hr.ev hx
    obtain ⟨_, _, d, _, _, h3, _, _, _, hkk⟩ := hT.i
    rw [hk] at hkk
    obtain ⟨rfl, j, y', hj1, hj2, _⟩ := hkk
    have hsz : ∀ w, (sizeOf e).run P w = .ok esz w := fun w => size_of_info hj1 hj2
    generalize hv : a.eval x = v at hxv
    cases hxv with
    | sl _ _ ad n c us hn hc hmm h0 hz ha h1 h =>
      subst hn
      obtain ⟨b, p, rfl, hs⟩ := ha (by omega)
      have hzl : z.toNat < xs.length := by omega
      have hl := hz z.toNat hzl
      refine ⟨.pointer (some ⟨b, p + z.toNat * esz, none⟩), ?_, .pt _ b (p + z.toNat * esz) (us z.toNat) (fun j hj => hs _ _ hzl (by omega)) (fun j hj => h1 _ _ hzl (by omega)) (fun j hj => h _ _ hzl (by omega))⟩
      unfold execOp
      rw [ho]
      simp [hv, hyv, Instr.indexAt, asIntOf, run_underlying h3, hz0, hz1, hsz, Addr.add_lit]
theorem ok_iaddr_ref {t : TypeId} {x y : Operand} {ti : TI} {e : TypeId} {esz eb : Nat} {ez : List Value} {k off n : Nat} {i : Value} {m : Nat} {ob : AObj} (hT : TIok P t ti) (hk : ti.kind = .slice e esz eb ez)
    (ho : o.op = .indexAddr t x y) (hx : σ.ev x = some (.ref k off n)) (hob : lk σ.objs k = some ob) (hsz : ob.sz = esz) (hy : σ.ev y = some (.v i)) (hm : ixOk i n = some m) : CoreOk P o σ (.ptr k (off + m) 0, []) :=
  CoreOk.pure fun B G w a hr => by
    obtain ⟨kk, z, rfl, hz0, hz1, rfl⟩ := ixOk_inv hm
    have hyv := (hr.ev hy).v_eq
    have hxv := hr.ev hx
    obtain ⟨_, _, d, _, _, h3, _, _, _, hkk⟩ := hT.i
    rw [hk] at hkk
    obtain ⟨rfl, j, y', hj1, hj2, _⟩ := hkk
    have hsz' : ∀ w, (sizeOf e).run P w = .ok esz w := fun w => size_of_info hj1 hj2
    generalize hv : a.eval x = v at hxv
    cases hxv with
    | ref _ _ _ blk base cap sz ad hl hle hcm hb h0 =>
      obtain ⟨b, rfl, rfl⟩ := hb (by omega)
      obtain ⟨blk', ba, ca, g1, _⟩ := hr.heap.obj k ob hob
      rw [hl] at g1
      cases g1
      subst hsz
      refine ⟨.pointer (some ⟨b, base + ((off + z.toNat) * ob.sz + 0), none⟩), ?_, .ptr k (off + z.toNat) 0 b base cap ob.sz hl⟩
      unfold execOp
      rw [ho]
      simp [hv, hyv, Instr.indexAt, asIntOf, run_underlying h3, hz0, hz1, hsz', Addr.add_lit]
      rw [Nat.add_mul]; omega
theorem ok_iaddr_arr {t : TypeId} {x y : Operand} {ti : TI} {len esz : Nat} {g : Bool} {k e j : Nat} {i : Value} {m : Nat} (hT : TIok P t ti) (hk : ti.kind = .arr len esz g)
    (ho : o.op = .indexAddr t x y) (hx : σ.ev x = some (.ptr k e j)) (hy : σ.ev y = some (.v i)) (hm : ixOk i len = some m) : CoreOk P o σ (.ptr k e (j + m * esz), []) :=
  CoreOk.pure fun B G w a hr => by
    obtain ⟨kk, z, rfl, hz0, hz1, rfl⟩ := ixOk_inv hm
    have hyv := (hr.ev hy).v_eq
    obtain ⟨b, base, cap, sz', hl, hv⟩ := ptr_inv (hr.ev hx)
    obtain ⟨_, _, d, _, _, h3, _, _, _, hkk⟩ := hT.i
    rw [hk] at hkk
    obtain ⟨el, rfl, ⟨jj, hj1, hj2⟩, _⟩ := hkk
    have hsz' : ∀ w, (sizeOf el).run P w = .ok esz w := fun w => size_of_info hj1 hj2
    refine ⟨.pointer (some ⟨b, base + (e * sz' + (j + z.toNat * esz)), none⟩), ?_, .ptr k e (j + z.toNat * esz) b base cap sz' hl⟩
    unfold execOp
    rw [ho]
    simp [hv, hyv, Instr.indexAt, asIntOf, run_underlying h3, hz0, hz1, hsz', Instr.sureAddr, Addr.add_lit]
    try omega
theorem ok_iaddr_arr_pt {t : TypeId} {x y : Operand} {ti : TI} {len esz : Nat} {g : Bool} {cs : List AV} {i : Value} {m : Nat} (hT : TIok P t ti) (hk : ti.kind = .arr len esz g)
    (ho : o.op = .indexAddr t x y) (hx : σ.ev x = some (.pt cs)) (hy : σ.ev y = some (.v i)) (hm : ixOk i len = some m) : CoreOk P o σ (.pt (cs.drop (m * esz)), []) :=
  CoreOk.pure fun B G w a hr => by
    obtain ⟨kk, z, rfl, hz0, hz1, rfl⟩ := ixOk_inv hm
    have hyv := (hr.ev hy).v_eq
    obtain ⟨b, p, hv, us, h1, h2, h4⟩ := pt_inv (hr.ev hx)
    obtain ⟨_, _, d, _, _, h3, _, _, _, hkk⟩ := hT.i
    rw [hk] at hkk
    obtain ⟨el, rfl, ⟨jj, hj1, hj2⟩, _⟩ := hkk
    have hsz' : ∀ w, (sizeOf el).run P w = .ok esz w := fun w => size_of_info hj1 hj2
    refine ⟨.pointer (some ⟨b, p + z.toNat * esz, none⟩), ?_, .pt _ b (p + z.toNat * esz) (fun j => us (z.toNat * esz + j)) (fun j hj => ?_) (fun j hj => ?_) (fun j hj => ?_)⟩
    · unfold execOp
      rw [ho]
      simp [hv, hyv, Instr.indexAt, asIntOf, run_underlying h3, hz0, hz1, hsz', Instr.sureAddr, Addr.add_lit]
    · have := h1 (z.toNat * esz + j) (by simp at hj; omega)
      rw [← this]; congr 1; omega
    · exact h2 _ (by simp at hj; omega)
    · have := h4 (z.toNat * esz + j) (by simp at hj; omega)
      simpa [List.getD, List.getElem?_drop] using this
theorem ok_index {t : TypeId} {x y : Operand} {ti : TI} {len esz : Nat} {g : Bool} {cs : List AV} {i : Value} {m : Nat} (hT : TIok P t ti) (hk : ti.kind = .arr len esz g) (h1 : g = false ∧ esz = 1)
    (ho : o.op = .index t x y) (hx : σ.ev x = some (.agg cs)) (hl : len ≤ cs.length) (hy : σ.ev y = some (.v i)) (hm : ixOk i len = some m) : CoreOk P o σ (cs.getD m .any, []) :=
  CoreOk.pure fun B G w a hr => by
    obtain ⟨kk, z, rfl, hz0, hz1, rfl⟩ := ixOk_inv hm
    obtain ⟨rfl, rfl⟩ := h1
    have hyv := (hr.ev hy).v_eq
    obtain ⟨arr, hv, hls, hone, h⟩ := (hr.ev hx).agg_inv
    obtain ⟨_, _, d, _, _, h3, _, _, _, hkk⟩ := hT.i
    rw [hk] at hkk
    obtain ⟨el, rfl, ⟨jj, hj1, hj2⟩, u, hu1, hu2⟩ := hkk
    have hsz' : ∀ w, (sizeOf el).run P w = .ok 1 w := fun w => size_of_info hj1 hj2
    have hag : ∀ w, (isAgg el).run P w = .ok false w := fun w => agg_of_under hu1 hu2
    refine ⟨arr.getD z.toNat undef, ?_, h _ (by omega)⟩
    unfold execOp
    rw [ho]
    simp [hv, hyv, Instr.index, asIntOf, run_underlying h3, hz0, hz1, hsz', part, hag, show z.toNat < arr.size by omega]
theorem ok_nilck {x : Operand} {av : AV} (ho : o.op = .nilCheck x) (hx : σ.ev x = some av) (hp : (∃ k e j, av = .ptr k e j) ∨ ∃ cs, av = .pt cs) : CoreOk P o σ (av, []) :=
  CoreOk.pure fun B G w a hr => by
    refine ⟨a.eval x, ?_, hr.ev hx⟩
    have h1 := hr.ev hx
    unfold execOp
    rw [ho]
    rcases hp with ⟨k, e, j, rfl⟩ | ⟨cs, rfl⟩
    · obtain ⟨b, base, cap, sz, hl, hv⟩ := ptr_inv h1
      simp [hv]
    · obtain ⟨b, p, hv, _⟩ := pt_inv h1
      simp [hv]
theorem ok_func {fn : FuncId} {cap : Array Operand} {cs : List AV} (ho : o.op = .makeFunc (.func fn) #[] cap) (hl : cs.length = cap.size) (hx : ∀ (i : Nat) (av : AV), cs[i]? = some av → ∃ x, cap[i]? = some x ∧ σ.ev x = some av) : CoreOk P o σ (.clo fn cs, []) :=
  CoreOk.pure fun B G w a hr => by
    refine ⟨.func (.func fn) #[] (cap.map a.eval), ?_, ?_⟩
    · unfold execOp
      rw [ho]
      simp [Instr.makeFunc]
    · have := Rv.clo (G := G) fn cs (cap.map a.eval).toList (by simp [hl]) (fun i hi => by
        obtain ⟨x, h1, h2⟩ := hx i cs[i] (by simp [hi])
        have h3 := hr.ev h2
        have hlt := (Array.getElem?_eq_some_iff.1 h1)
        obtain ⟨hlt, rfl⟩ := hlt
        simpa [List.getD, hi, hlt] using h3)
      rw [Array.toArray_toList] at this
      exact this
/-- Lengths. -/
def lenA : AV → Option Nat
  | .sl _ xs => some xs.length
  | .ref _ _ n => some n
  | .v (.slice _ n _) => some n
  | _ => none
theorem ok_len {x : Operand} {av : AV} {n : Nat} {t : TypeId} {ti : TI} {e : TypeId} {esz eb : Nat} {ez : List Value} (hT : TIok P t ti) (hk : ti.kind = .slice e esz eb ez) (ho : o.op = .call { callee := .builtin .len, args := #[x], argTypes := #[t] }) (hx : σ.ev x = some av) (hn : lenA av = some n) : CoreOk P o σ (.v (.int .i64 n), []) :=
  CoreOk.pure fun B G w a hr => by
    refine ⟨_, ?_, .v _⟩
    have h1 := hr.ev hx
    obtain ⟨_, _, d, _, _, h3, _, _, _, hkk⟩ := hT.i
    rw [hk] at hkk
    obtain ⟨rfl, _⟩ := hkk
    have hv : ∃ ad c, a.eval x = .slice ad n c := by
      generalize a.eval x = v at h1
      unfold lenA at hn
      split at hn
      · cases h1 with | sl _ _ ad n c us hn' => cases hn; subst hn'; exact ⟨_, _, rfl⟩
      · cases h1; cases hn; exact ⟨_, _, rfl⟩
      · cases hn; cases h1; exact ⟨_, _, rfl⟩
      · cases hn
    obtain ⟨ad, c, hv⟩ := hv
    unfold execOp
    rw [ho]
    simp [resolve, invoke, builtin, hv, Builtin.len_, run_underlying h3, goInt]
end reads
end Go.Proofs.Ytkollnaojpppcaa
