/- An abstract machine for the text, part ten: what is let go stays; functions that only compute; plain lemmas over any program; no condition. -/
import Derived.Test.YtkollnaojpppcaaAm9
namespace Go.Proofs.Ytkollnaojpppcaa
open Go.RowKit

/-- Objects that are no longer written, as readable lists. -/
def AS.shut1 (σ : AS) (D : Nat → Bool) : AV → Option AV
  | .ref k off n => match lk σ.objs k with
    | some ob => if D k = true ∧ off + n ≤ ob.xs.length ∧ idsLL ((ob.xs.drop off).take n) = [] then some (.sl ob.sz ((ob.xs.drop off).take n)) else none
    | none => none
  | av => if av.ids = [] then some av else none
def AS.shutL (σ : AS) (D : Nat → Bool) : List AV → Option (List AV)
  | [] => some []
  | c :: cs => match σ.shut1 D c, σ.shutL D cs with
    | some d, some ds => some (d :: ds)
    | _, _ => none
def AS.shut2 (σ : AS) (D : Nat → Bool) : AV → Option AV
  | .agg cs => (σ.shutL D cs).map .agg
  | av => σ.shut1 D av
def AS.shutM (σ : AS) (D : Nat → Bool) : List AV → Option (List AV)
  | [] => some []
  | c :: cs => match σ.shut2 D c, σ.shutM D cs with
    | some d, some ds => some (d :: ds)
    | _, _ => none
def AS.shut (σ : AS) (D : Nat → Bool) : AV → Option AV
  | .tup cs => (σ.shutM D cs).map .tup
  | av => σ.shut2 D av

section frz
variable {P : Program} {σ : AS} {B : Base} {G : Gh} {w : World} {a : Act}

/-- Is the block one of an object of D? -/
def frzB (G : Gh) (σ : AS) (D : Nat → Bool) (b : Nat) : Bool := σ.objs.any fun p => D p.1 && match G.loc p.1 with
  | some (some b', _) => b' == b
  | _ => false
theorem lk_mem {α : Type} : ∀ {l : List (Nat × α)} {k : Nat} {x : α}, (k, x) ∈ l → ∃ y, lk l k = some y
  | (e, u) :: r, k, x, h => by
    by_cases he : e = k
    · exact ⟨u, by simp [lk, he]⟩
    · simp only [List.mem_cons, Prod.mk.injEq] at h
      rcases h with h | h
      · exact absurd h.1.symm he
      · obtain ⟨y, hy⟩ := lk_mem h
        exact ⟨y, by simp [lk, he, hy]⟩
theorem mem_lk {α : Type} : ∀ {l : List (Nat × α)} {k : Nat} {x : α}, lk l k = some x → (k, x) ∈ l
  | (e, u) :: r, k, x, h => by
    simp only [lk] at h
    split at h
    · rename_i he; subst he; cases h; exact List.mem_cons_self
    · exact List.mem_cons_of_mem _ (mem_lk h)
theorem frzB_iff {G : Gh} {σ : AS} {D : Nat → Bool} {b : Nat} : frzB G σ D b = true ↔ ∃ k ob x, D k = true ∧ lk σ.objs k = some ob ∧ G.loc k = some (some b, x) := by
  unfold frzB
  rw [List.any_eq_true]
  constructor
  · rintro ⟨⟨k, ob⟩, h1, h2⟩
    simp only [Bool.and_eq_true] at h2
    obtain ⟨h2, h3⟩ := h2
    obtain ⟨y, hy⟩ := lk_mem h1
    split at h3
    · rename_i b' x hl
      obtain rfl : b' = b := by simpa using h3
      exact ⟨k, y, x, h2, hy, hl⟩
    · cases h3
  · rintro ⟨k, ob, x, h1, h2, h3⟩
    exact ⟨(k, ob), mem_lk h2, by simp [h1, h3]⟩
/-- The ghost in which all cells of the objects of D stay. -/
def Gh.frz (G : Gh) (σ : AS) (D : Nat → Bool) (w : World) : Gh where
  S b p := if frzB G σ D b = true then w.cell? ⟨b, p, none⟩ else G.S b p
  loc := G.loc
theorem frz_le (hr : R B G σ w a) (D : Nat → Bool) : G.le (G.frz σ D w) := by
  refine ⟨fun b o u hs => ?_, fun k l h => h⟩
  simp only [Gh.frz]
  split
  · rename_i h
    obtain ⟨k, ob, x, _, h2, h3⟩ := frzB_iff.1 h
    rw [hr.heap.sep k ob h2 _ _ h3] at hs; cases hs
  · exact hs
theorem frz_in {D : Nat → Bool} {b p k : Nat} {ob : AObj} {x : Nat × Nat × Nat} (hD : D k = true) (hk : lk σ.objs k = some ob) (hl : G.loc k = some (some b, x)) : (G.frz σ D w).S b p = w.cell? ⟨b, p, none⟩ := by
  simp only [Gh.frz]
  rw [if_pos (frzB_iff.2 ⟨k, ob, x, hD, hk, hl⟩)]

/-- Objects of D are let go. -/
theorem R.freeze (hr : R B G σ w a) (D : Nat → Bool) (objs' : List (Nat × AObj)) (hobj : ∀ k ob, lk objs' k = some ob → lk σ.objs k = some ob ∧ D k = false) : R B (G.frz σ D w) { σ with objs := objs' } w a := by
  have hle := frz_le hr D
  have hh := hr.heap
  refine ⟨hr.n, fun s av hs => ⟨(hr.slot s av hs).1, (hr.slot s av hs).2.mono hle⟩, hr.defers, ?_, hr.ids⟩
  have hS : ∀ b o u, (G.frz σ D w).S b o = some u → w.cell? ⟨b, o, none⟩ = some u ∧ (G.S b o = some u ∨ ∃ k ob x, D k = true ∧ lk σ.objs k = some ob ∧ G.loc k = some (some b, x)) := fun b o u hs => by
    simp only [Gh.frz] at hs
    split at hs
    · rename_i h; exact ⟨hs, .inr (frzB_iff.1 h)⟩
    · exact ⟨hh.st _ _ _ hs, .inl hs⟩
  refine ⟨hh.os, hh.tape, hh.output, hh.size, hh.old, fun k ob hk => (hh.obj k ob (hobj k ob hk).1).mono hle fun _ _ _ _ _ => rfl, fun k ob hk => hh.own k ob (hobj k ob hk).1, fun k k' ob ob' hk hk' => hh.inj k k' ob ob' (hobj _ _ hk).1 (hobj _ _ hk').1, fun b o u hs => (hS b o u hs).1, fun k ob hk b x hl p => ?_, fun b o u hs => ?_, fun b o u hs => hle.S _ _ _ (hh.keep b o u hs), hh.fix, hh.pin, hh.base⟩
  · cases hs : (G.frz σ D w).S b p with
    | none => rfl
    | some u =>
      exfalso
      obtain ⟨h1, h2 | ⟨k', ob', y, h2, h3, h4⟩⟩ := hS b p u hs
      · rw [hh.sep k ob (hobj k ob hk).1 _ _ hl] at h2; cases h2
      · have := hh.inj k k' ob ob' (hobj k ob hk).1 h3 _ _ _ hl h4
        rw [this] at hk
        have := (hobj _ _ hk).2
        rw [h2] at this; cases this
  · obtain ⟨h1, h2 | ⟨k', ob', y, h2, h3, h4⟩⟩ := hS b o u hs
    · exact hh.fresh b o u h2
    · exact .inr (hh.own k' ob' h3 _ _ _ _ h4)

/-- What is let go, read. -/
theorem shut1_ok (hr : R B G σ w a) {D : Nat → Bool} {T : Nat → Nat → Option Value} (hT : ∀ b o u, G.S b o = some u → T b o = some u) (hD : ∀ k ob b x p u, D k = true → lk σ.objs k = some ob → G.loc k = some (some b, x) → w.cell? ⟨b, p, none⟩ = some u → T b p = some u) {L : Nat → Option (Option Nat × Nat × Nat × Nat)} {av av' : AV} {v : Value} (hv : Rv G av v) (h : σ.shut1 D av = some av') : Rv ⟨T, L⟩ av' v := by
  by_cases hre : ∃ k off n, av = .ref k off n
  · obtain ⟨k, off, n, rfl⟩ := hre
    simp only [AS.shut1] at h
    split at h
    · rename_i ob hk
      split at h
      · rename_i hc
        obtain ⟨hd, hle, hids⟩ := hc
        cases h
        cases hv with
        | ref _ _ _ blk base cap sz ad hl hle2 hm hb h0 =>
          obtain ⟨blk', ba, ca, g1, g2, g3, g4, g5⟩ := hr.heap.obj k ob hk
          rw [hl] at g1
          cases g1
          have hlen : ((ob.xs.drop off).take n).length = n := by simp; omega
          have hrow : ∀ i, i < n → ((ob.xs.drop off).take n).getD i [] = ob.xs.getD (off + i) [] := fun i hi => by simp [List.getD, List.getElem?_take, hi, List.getElem?_drop]
          have hpure : ∀ i j, i < n → j < ob.sz → ((ob.xs.getD (off + i) []).getD j .any).ids = [] := fun i j hi hj => by
            rw [← hrow i hi]
            refine List.eq_nil_iff_forall_not_mem.2 fun q hq => ?_
            have := idsLL_mem (xs := (ob.xs.drop off).take n) (i := i) (by omega) (idsL_mem (by rw [hrow i hi, g4 _ (by omega)]; exact hj) hq)
            rw [hids] at this; cases this
          refine .sl _ _ ad n (cap - off) (fun i j => (w.cell? ⟨blk.getD 0, base + ((off + i) * ob.sz + j), none⟩).getD undef) hlen.symm (by omega) (by unfold AMax; omega) (fun e => by have := h0 e; omega) (fun i hi => ?_) (fun hp => ?_) (fun i j hi hj => ?_) (fun i j hi hj => ?_)
          · rw [hlen] at hi; rw [hrow i hi]; exact g4 _ (by omega)
          · rw [hlen] at hp
            obtain ⟨b, rfl, rfl⟩ := hb (by omega)
            refine ⟨b, base + off * ob.sz, rfl, fun i j hi hj => ?_⟩
            rw [hlen] at hi
            obtain ⟨_, u, c1, _, c2, c3⟩ := hr.cellsOf hk hl (e := off + i) (j := j) (by omega) hj
            have e2 : base + off * ob.sz + i * ob.sz + j = base + ((off + i) * ob.sz + j) := by rw [Nat.add_mul]; omega
            rw [e2]
            simp only [Option.getD_some, c1]
            exact hD k ob b _ _ _ hd hk hl c1
          · rw [hlen] at hi
            obtain ⟨b, rfl, _⟩ := hb (by omega)
            obtain ⟨_, u, c1, _, c2, c3⟩ := hr.cellsOf hk hl (e := off + i) (j := j) (by omega) hj
            simp only [Option.getD_some, c1]; exact c2
          · rw [hlen] at hi
            obtain ⟨b, rfl, _⟩ := hb (by omega)
            obtain ⟨_, u, c1, _, c2, c3⟩ := hr.cellsOf hk hl (e := off + i) (j := j) (by omega) hj
            rw [hrow i hi]
            simp only [Option.getD_some, c1]
            exact c3.pure hT (hpure i j hi hj)
      · cases h
    · cases h
  · have h' : (if av.ids = [] then some av else none) = some av' := by
      cases av <;> first | exact h | exact absurd ⟨_, _, _, rfl⟩ hre
    split at h'
    · rename_i hp; cases h'; exact hv.pure hT hp
    · cases h'
theorem shutL_ok (hr : R B G σ w a) {D : Nat → Bool} {T : Nat → Nat → Option Value} (hT : ∀ b o u, G.S b o = some u → T b o = some u) (hD : ∀ k ob b x p u, D k = true → lk σ.objs k = some ob → G.loc k = some (some b, x) → w.cell? ⟨b, p, none⟩ = some u → T b p = some u) {L : Nat → Option (Option Nat × Nat × Nat × Nat)} :
    ∀ {cs ds : List AV} (f : Nat → Value), (∀ i, i < cs.length → Rv G (cs.getD i .any) (f i)) → σ.shutL D cs = some ds → ds.length = cs.length ∧ ∀ i, i < cs.length → Rv ⟨T, L⟩ (ds.getD i .any) (f i)
  | [], ds, f, _, h => by simp only [AS.shutL, Option.some.injEq] at h; subst h; exact ⟨rfl, fun i hi => by simp at hi⟩
  | c :: cs, ds, f, hf, h => by
    simp only [AS.shutL] at h
    split at h
    · rename_i d ds' h1 h2
      cases h
      obtain ⟨h3, h4⟩ := shutL_ok hr hT hD (L := L) (fun i => f (i + 1)) (fun i hi => by simpa using hf (i + 1) (by simpa using hi)) h2
      refine ⟨by simp [h3], fun i hi => ?_⟩
      cases i with
      | zero => simpa using shut1_ok hr hT hD (L := L) (hf 0 (by simp)) h1
      | succ i => simpa using h4 i (by simpa using hi)
    · cases h
theorem shut2_ok (hr : R B G σ w a) {D : Nat → Bool} {T : Nat → Nat → Option Value} (hT : ∀ b o u, G.S b o = some u → T b o = some u) (hD : ∀ k ob b x p u, D k = true → lk σ.objs k = some ob → G.loc k = some (some b, x) → w.cell? ⟨b, p, none⟩ = some u → T b p = some u) {L : Nat → Option (Option Nat × Nat × Nat × Nat)} {av av' : AV} {v : Value} (hv : Rv G av v) (h : σ.shut2 D av = some av') : Rv ⟨T, L⟩ av' v := by
  by_cases hre : ∃ cs, av = .agg cs
  · obtain ⟨cs, rfl⟩ := hre
    simp only [AS.shut2, Option.map_eq_some_iff] at h
    obtain ⟨ds, h1, rfl⟩ := h
    obtain ⟨arr, rfl, hl, hone, hcs⟩ := hv.agg_inv
    obtain ⟨h3, h4⟩ := shutL_ok hr hT hD (L := L) (fun i => arr.getD i undef) hcs h1
    exact Rv.agg' (by omega) hone (fun i hi => h4 i (by omega))
  · have h' : σ.shut1 D av = some av' := by
      cases av <;> first | exact h | exact absurd ⟨_, rfl⟩ hre
    exact shut1_ok hr hT hD hv h'
theorem shutM_ok (hr : R B G σ w a) {D : Nat → Bool} {T : Nat → Nat → Option Value} (hT : ∀ b o u, G.S b o = some u → T b o = some u) (hD : ∀ k ob b x p u, D k = true → lk σ.objs k = some ob → G.loc k = some (some b, x) → w.cell? ⟨b, p, none⟩ = some u → T b p = some u) {L : Nat → Option (Option Nat × Nat × Nat × Nat)} :
    ∀ {cs ds : List AV} (f : Nat → Value), (∀ i, i < cs.length → Rv G (cs.getD i .any) (f i)) → σ.shutM D cs = some ds → ds.length = cs.length ∧ ∀ i, i < cs.length → Rv ⟨T, L⟩ (ds.getD i .any) (f i)
  | [], ds, f, _, h => by simp only [AS.shutM, Option.some.injEq] at h; subst h; exact ⟨rfl, fun i hi => by simp at hi⟩
  | c :: cs, ds, f, hf, h => by
    simp only [AS.shutM] at h
    split at h
    · rename_i d ds' h1 h2
      cases h
      obtain ⟨h3, h4⟩ := shutM_ok hr hT hD (L := L) (fun i => f (i + 1)) (fun i hi => by simpa using hf (i + 1) (by simpa using hi)) h2
      refine ⟨by simp [h3], fun i hi => ?_⟩
      cases i with
      | zero => simpa using shut2_ok hr hT hD (L := L) (hf 0 (by simp)) h1
      | succ i => simpa using h4 i (by simpa using hi)
    · cases h
theorem shut_ok (hr : R B G σ w a) {D : Nat → Bool} {T : Nat → Nat → Option Value} (hT : ∀ b o u, G.S b o = some u → T b o = some u) (hD : ∀ k ob b x p u, D k = true → lk σ.objs k = some ob → G.loc k = some (some b, x) → w.cell? ⟨b, p, none⟩ = some u → T b p = some u) {L : Nat → Option (Option Nat × Nat × Nat × Nat)} {av av' : AV} {v : Value} (hv : Rv G av v) (h : σ.shut D av = some av') : Rv ⟨T, L⟩ av' v := by
  by_cases hre : ∃ cs, av = .tup cs
  · obtain ⟨cs, rfl⟩ := hre
    simp only [AS.shut, Option.map_eq_some_iff] at h
    obtain ⟨ds, h1, rfl⟩ := h
    cases hv with
    | tup _ us hl hcs =>
      obtain ⟨h3, h4⟩ := shutM_ok hr hT hD (L := L) (fun i => us.getD i undef) hcs h1
      exact .tup ds us (by omega) (fun i hi => h4 i (by omega))
  · have h' : σ.shut2 D av = some av' := by
      cases av <;> first | exact h | exact absurd ⟨_, rfl⟩ hre
    exact shut2_ok hr hT hD hv h'
end frz

/-! ### Functions that only compute -/
/-- Nothing but what stays. -/
def G0 (S : Nat → Nat → Option Value) : Gh := ⟨S, fun _ => none⟩
def StOk (S : Nat → Nat → Option Value) (w : World) : Prop := ∀ b o u, S b o = some u → w.cell? ⟨b, o, none⟩ = some u
/-- What a call leaves. -/
def Left1 (S : Nat → Nat → Option Value) (w : World) (res : AV) (e : Ending) (w' : World) : Prop :=
  ∃ v S', e = .returned v ∧ Below w.heap.size w w' ∧ (∀ b o u, S b o = some u → S' b o = some u) ∧ StOk S' w' ∧ (∀ b o u, S' b o = some u → S b o = some u ∨ w.heap.size ≤ b) ∧ Rv (G0 S') res v
/-- The function returns this for these arguments, wherever they lie; what was there stays. -/
def FnPure (P : Program) (f : FuncId) (args : List AV) (res : AV) : Prop :=
  ∀ (S : Nat → Nat → Option Value) (w : World) (vs : Array Value), StOk S w → vs.size = args.length → (∀ i, i < args.length → Rv (G0 S) (args.getD i .any) (vs.getD i undef)) → Calls P f vs w (Left1 S w res)

/-- Only what lies in new blocks. -/
def newS (S : Nat → Nat → Option Value) (B : Nat) : Nat → Nat → Option Value := fun b o => if b < B then none else S b o
/-- As above, and what it returns lies in new memory alone. -/
def LeftF (w : World) (res : AV) (e : Ending) (w' : World) : Prop :=
  ∃ v, e = .returned v ∧ Below w.heap.size w w' ∧ Rv (G0 (newS (fun b o => w'.cell? ⟨b, o, none⟩) w.heap.size)) res v
def FnFresh (P : Program) (f : FuncId) (args : List AV) (res : AV) : Prop :=
  ∀ (S : Nat → Nat → Option Value) (w : World) (vs : Array Value), StOk S w → vs.size = args.length → (∀ i, i < args.length → Rv (G0 S) (args.getD i .any) (vs.getD i undef)) → Calls P f vs w (LeftF w res)
theorem FnFresh.pure {P : Program} {f : FuncId} {args : List AV} {res : AV} (h : FnFresh P f args res) : FnPure P f args res := fun S w vs hS hn hv =>
  (h S w vs hS hn hv).mono fun e w' hl => by
    obtain ⟨v, rfl, hb, hr⟩ := hl
    refine ⟨v, fun b o => if b < w.heap.size then S b o else w'.cell? ⟨b, o, none⟩, rfl, hb, fun b o u hs => ?_, fun b o u hs => ?_, fun b o u hs => ?_, Rv.mono (G := G0 (newS (fun b o => w'.cell? ⟨b, o, none⟩) w.heap.size)) (G' := G0 (fun b o => if b < w.heap.size then S b o else w'.cell? ⟨b, o, none⟩)) ⟨fun b o u hs => ?_, fun _ _ h => h⟩ hr⟩
    · have := World.block_lt_of_cell? _ _ (hS b o u hs)
      show (if b < w.heap.size then _ else _) = _
      rw [if_pos this]; exact hs
    · simp only at hs
      split at hs
      · rename_i hlt; exact (hb.cell hlt).trans (hS b o u hs)
      · exact hs
    · simp only at hs
      split at hs
      · exact .inl hs
      · exact .inr (by omega)
    · simp only [G0, newS] at hs ⊢
      split at hs
      · cases hs
      · rename_i h; rw [if_neg h]; exact hs
/-- Exact values alone. -/
def AV.isV : AV → Bool
  | .v _ => true
  | _ => false
def AV.scalar1 : AV → Bool
  | .v _ => true
  | .agg cs => cs.all AV.isV
  | _ => false
def AV.scalar : AV → Bool
  | .tup cs => cs.all AV.scalar1
  | a => a.scalar1
theorem Rv.isV {G G' : Gh} {a : AV} {v : Value} (h : Rv G a v) (hs : a.isV = true) : Rv G' a v := by
  cases h <;> first | exact .v _ | (simp [AV.isV] at hs)
theorem Rv.scalar1 {G G' : Gh} {a : AV} {v : Value} (h : Rv G a v) (hs : a.scalar1 = true) : Rv G' a v := by
  by_cases hg : ∃ cs, a = .agg cs
  · obtain ⟨cs, rfl⟩ := hg
    obtain ⟨arr, rfl, hl, h1, h2⟩ := h.agg_inv
    refine Rv.agg' hl h1 fun i hi => (h2 i hi).isV ?_
    have := List.all_eq_true.1 hs (cs.getD i .any) (by simp [List.getD, hi])
    exact this
  · refine h.isV (G' := G') ?_
    cases a <;> first | exact hs | exact absurd ⟨_, rfl⟩ hg
theorem Rv.scalar {G G' : Gh} {a : AV} {v : Value} (h : Rv G a v) (hs : a.scalar = true) : Rv G' a v := by
  by_cases hg : ∃ cs, a = .tup cs
  · obtain ⟨cs, rfl⟩ := hg
    cases h with
    | tup _ us hl h2 =>
      refine .tup cs us hl fun i hi => (h2 i hi).scalar1 ?_
      exact List.all_eq_true.1 hs (cs.getD i .any) (by simp [List.getD, hi])
  · refine h.scalar1 (G' := G') ?_
    cases a <;> first | exact hs | exact absurd ⟨_, rfl⟩ hg

section calls
variable {P : Program} {σ : AS} {B : Base} {G : Gh} {w : World} {a : Act}
/-- Behind a call that only computes. -/
theorem R.after (hr : R B G σ w a) {S' : Nat → Nat → Option Value} {w' : World} (hb : Below w.heap.size w w') (h1 : ∀ b o u, G.S b o = some u → S' b o = some u) (h2 : StOk S' w') (h3 : ∀ b o u, S' b o = some u → G.S b o = some u ∨ w.heap.size ≤ b) : G.le ⟨S', G.loc⟩ ∧ R B ⟨S', G.loc⟩ σ w' a := by
  have hle : G.le ⟨S', G.loc⟩ := ⟨h1, fun _ _ h => h⟩
  have hh := hr.heap
  refine ⟨hle, hr.n, fun s av hs => ⟨(hr.slot s av hs).1, (hr.slot s av hs).2.mono hle⟩, hr.defers, ?_, hr.ids⟩
  refine ⟨hb.os.trans hh.os, hb.tape.trans hh.tape, hb.output.trans hh.output, Nat.le_trans hh.size hb.size, fun b hb' hn => (hb.block b (Nat.lt_of_lt_of_le hb' hh.size)).trans (hh.old b hb' hn), fun k ob hk => (hh.obj k ob hk).mono hle fun b base cap sz hl => hb.block b ((hh.obj k ob hk).lt hl), hh.own, hh.inj, fun b o u hs => h2 b o u hs, fun k ob hk b x hl p => ?_, fun b o u hs => ?_, fun b o u hs => h1 _ _ _ (hh.keep b o u hs), hh.fix, fun r hr' => ⟨(hb.block r (Array.getElem?_eq_some_iff.1 (hh.pin r hr').1).1).trans (hh.pin r hr').1, (hh.pin r hr').2⟩, hh.base⟩
  · cases hs : S' b p with
    | none => exact hs
    | some u =>
      exfalso
      rcases h3 b p u hs with h | h
      · rw [hh.sep k ob hk _ _ hl] at h; cases h
      · have := (hh.obj k ob hk).lt hl; omega
  · rcases h3 b o u hs with h | h
    · exact hh.fresh b o u h
    · exact .inr (.inl (Nat.le_trans hh.size h))
end calls
end Go.Proofs.Ytkollnaojpppcaa
