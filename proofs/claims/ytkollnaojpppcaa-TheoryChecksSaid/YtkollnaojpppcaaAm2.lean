/- An abstract machine for the text, part two: what is known of types; a step of memory; operations that only read; plain lemmas over any program; no condition. -/
import Derived.Test.YtkollnaojpppcaaAm1
import Derived.Deep.MidRow
import Derived.Laws.CopyRow
import Derived.Laws.AppendOwn
import Derived.Great.BuildSlice
namespace Go.Proofs.Ytkollnaojpppcaa
open Go.RowKit

inductive TK where
  | plain (d : TypeDesc)
  | strct (fs : List (Nat × Nat × Bool))
  | arr (len esz : Nat) (eagg : Bool)
  | slice (e : TypeId) (esz ebytes : Nat) (ez : List Value)
  deriving Inhabited
/-- What the machine knows of a type: cells, struct or array, zero cells. -/
structure TI where
  size : Nat
  agg : Bool
  zero : List Value
  kind : TK
  eqk : Option Bool
  deriving Inhabited
def aggB (d : TypeDesc) : Bool := match d with | .struct _ | .array _ _ => true | _ => false

/-- It is so in the program. -/
structure TIok (P : Program) (t : TypeId) (ti : TI) : Prop where
  i : ∃ i z d, P.info? t = some i ∧ i.zero = some z ∧ P.underlying t = some d ∧ z.cells.toList = ti.zero ∧ i.size = ti.size ∧ aggB d = ti.agg ∧
    match ti.kind with
    | .plain d' => d = d'
    | .strct fs => ∃ fields : Array Field, d = .struct fields ∧ fields.size = fs.length ∧ ∀ (f o s : Nat) (g : Bool), fs[f]? = some (o, s, g) → ∃ fl : Field, fields[f]? = some fl ∧ fl.offset = o ∧ (∃ j, P.info? fl.type = some j ∧ j.size = s) ∧ ∃ e, P.underlying fl.type = some e ∧ aggB e = g
    | .arr len s g => ∃ e, d = .array len e ∧ (∃ j, P.info? e = some j ∧ j.size = s) ∧ ∃ u, P.underlying e = some u ∧ aggB u = g
    | .slice e s b ez => d = .slice e ∧ ∃ j y, P.info? e = some j ∧ j.size = s ∧ j.bytes = b ∧ j.zero = some y ∧ y.cells.toList = ez
  len : ti.zero.length = ti.size
  one : ∀ u ∈ ti.zero, u.oneCell' = true
  ezero : ∀ e s b ez, ti.kind = .slice e s b ez → ez.length = s ∧ ∀ u ∈ ez, u.oneCell' = true
  plain : ti.agg = false → ti.size = 1
  eq : ∀ b, ti.eqk = some b → P.eqGuardType P.depth t = false ∧ ∃ len e j, P.underlying t = some (.array len e) ∧ P.info? e = some j ∧ j.size = 1 ∧ (if b then ∃ k, P.underlying e = some (.int k) else P.underlying e = some .bool)

/-- May it be compared as a row of numbers (true) or Booleans (false)? -/
def eqB (P : Program) (t : TypeId) : Option Bool :=
  if P.eqGuardType P.depth t = true then none else
  match P.underlying t with
  | some (.array _ e) =>
    match P.info? e, P.underlying e with
    | some j, some .bool => if j.size = 1 then some false else none
    | some j, some (.int _) => if j.size = 1 then some true else none
    | _, _ => none
  | _ => none
theorem eqB_ok {P : Program} {t : TypeId} : ∀ b, eqB P t = some b → P.eqGuardType P.depth t = false ∧ ∃ len e j, P.underlying t = some (.array len e) ∧ P.info? e = some j ∧ j.size = 1 ∧ (if b then ∃ k, P.underlying e = some (.int k) else P.underlying e = some .bool) := by
  intro b h
  unfold eqB at h
  split at h
  · cases h
  · rename_i hg
    refine ⟨by simpa using hg, ?_⟩
    split at h
    · rename_i len e hu
      split at h
      · rename_i j hj he
        split at h
        · rename_i hs
          cases h
          exact ⟨len, e, j, hu, hj, hs, by simpa using he⟩
        · cases h
      · rename_i j k hj he
        split at h
        · rename_i hs
          cases h
          exact ⟨len, e, j, hu, hj, hs, by simpa using ⟨k, he⟩⟩
        · cases h
      · cases h
    · cases h

/-- It is computed. -/
def mkTI (P : Program) (t : TypeId) : Option TI :=
  match P.info? t, P.underlying t with
  | some i, some d =>
    match i.zero with
    | some z =>
      let zero := z.cells.toList
      if zero.length = i.size ∧ zero.all (·.oneCell') = true ∧ (aggB d || i.size == 1) = true then
        match d with
        | .struct fields =>
          if fields.all (fun f => (P.info? f.type).isSome && (P.underlying f.type).isSome) then
            some ⟨i.size, true, zero, .strct (fields.toList.map fun f => (f.offset, ((P.info? f.type).map (·.size)).getD 0, ((P.underlying f.type).map aggB).getD false)), eqB P t⟩
          else none
        | .array len e =>
          match P.info? e, P.underlying e with
          | some j, some u => some ⟨i.size, true, zero, .arr len j.size (aggB u), eqB P t⟩
          | _, _ => none
        | .slice e =>
          match P.info? e with
          | some j => match j.zero with
            | some y => if y.cells.toList.length = j.size ∧ y.cells.toList.all (·.oneCell') = true then some ⟨i.size, false, zero, .slice e j.size j.bytes y.cells.toList, eqB P t⟩ else none
            | none => none
          | none => none
        | _ => some ⟨i.size, false, zero, .plain d, eqB P t⟩
      else none
    | none => none
  | _, _ => none

theorem mkTI_ok {P : Program} {t : TypeId} {ti : TI} (h : mkTI P t = some ti) : TIok P t ti := by
  unfold mkTI at h
  split at h
  · rename_i i d hi hd
    split at h
    · rename_i z hz
      simp only at h
      split at h
      · rename_i hc
        obtain ⟨h1, h2, h3⟩ := hc
        have h2' : ∀ u ∈ z.cells.toList, u.oneCell' = true := List.all_eq_true.1 h2
        split at h
        · rename_i fields
          split at h
          · rename_i hf
            cases h
            refine ⟨⟨i, z, _, hi, hz, hd, rfl, rfl, rfl, fields, rfl, by simp, fun f o s g hfs => ?_⟩, h1, h2', fun e s b ez hk => (by cases hk), fun hk => (by cases hk), eqB_ok⟩
            simp only [List.getElem?_map, Option.map_eq_some_iff] at hfs
            obtain ⟨fl, h4, h5⟩ := hfs
            simp only [Prod.mk.injEq] at h5
            obtain ⟨rfl, rfl, rfl⟩ := h5
            have h6 : fields[f]? = some fl := by simpa using h4
            have h7 := (Array.all_eq_true_iff_forall_mem.1 hf) fl (Array.mem_of_getElem? h6)
            simp only [Bool.and_eq_true, Option.isSome_iff_exists] at h7
            obtain ⟨⟨j, hj⟩, ⟨e, he⟩⟩ := h7
            exact ⟨fl, h6, rfl, ⟨j, hj, by simp [hj]⟩, e, he, by simp [he]⟩
          · cases h
        · rename_i len e
          split at h
          · rename_i j u hj hu
            cases h
            exact ⟨⟨i, z, _, hi, hz, hd, rfl, rfl, rfl, e, rfl, ⟨j, hj, rfl⟩, u, hu, rfl⟩, h1, h2', fun e s b ez hk => (by cases hk), fun hk => (by cases hk), eqB_ok⟩
          · cases h
        · rename_i e
          split at h
          · rename_i j hj
            split at h
            · rename_i y hy
              split at h
              · rename_i hc2
                cases h
                refine ⟨⟨i, z, _, hi, hz, hd, rfl, rfl, rfl, rfl, j, y, hj, rfl, rfl, hy, rfl⟩, h1, h2', fun e s b ez hk => ?_, fun _ => by simpa [aggB] using h3, eqB_ok⟩
                cases hk
                exact ⟨hc2.1, List.all_eq_true.1 hc2.2⟩
              · cases h
            · cases h
          · cases h
        · cases h
          rename_i hs ha hsl
          have ha' : aggB d = false := by cases d <;> first | rfl | exact absurd rfl (hs _) | exact absurd rfl (ha _ _)
          refine ⟨⟨i, z, _, hi, hz, hd, rfl, rfl, ha', rfl⟩, h1, h2', fun e s b ez hk => (by cases hk), fun _ => ?_, eqB_ok⟩
          rw [ha'] at h3
          simpa using h3
      · cases h
    · cases h
  · cases h

/-- What is known of types. -/
abbrev TTab := TypeId → Option TI
def TTok (P : Program) (TT : TTab) : Prop := ∀ t ti, TT t = some ti → TIok P t ti

section runs
variable {P : Program} {w : World} {t : TypeId} {ti : TI}
theorem TIok.run_size (h : TIok P t ti) : (sizeOf t).run P w = .ok ti.size w := by
  obtain ⟨i, z, d, h1, h2, h3, h4, h5, h6, _⟩ := h.i
  simp [sizeOf, typeInfo, h1, h5]
theorem TIok.run_agg (h : TIok P t ti) : (isAgg t).run P w = .ok ti.agg w := by
  obtain ⟨i, z, d, h1, h2, h3, h4, h5, h6, _⟩ := h.i
  unfold isAgg
  rw [Sem.run_bind, run_underlying h3 w, ← h6]
  cases d <;> rfl
theorem TIok.run_zero (h : TIok P t ti) : ∃ z, (zeroValue t).run P w = .ok z w ∧ z.cells.toList = ti.zero := by
  obtain ⟨i, z, d, h1, h2, h3, h4, h5, h6, _⟩ := h.i
  exact ⟨z, by simp [zeroValue, typeInfo, h1, h2], h4⟩
theorem TIok.info_size (h : TIok P t ti) : (P.info? t).map (·.size) = some ti.size := by
  obtain ⟨i, z, d, h1, h2, h3, h4, h5, h6, _⟩ := h.i
  simp [h1, h5]
theorem size_of_info {e : TypeId} {j : TypeInfo} {s : Nat} (h : P.info? e = some j) (hs : j.size = s) : (sizeOf e).run P w = .ok s w := by simp [sizeOf, typeInfo, h, hs]
theorem agg_of_under {e : TypeId} {d : TypeDesc} {g : Bool} (h : P.underlying e = some d) (hg : aggB d = g) : (isAgg e).run P w = .ok g w := by
  unfold isAgg
  rw [Sem.run_bind, run_underlying h w, ← hg]
  cases d <;> rfl
end runs

/-! ### A step of memory -/
section step
variable {B : Base} {G G' : Gh} {H H' : Nat → Option AObj} {w w' : World}

theorem RH.blk_lt (h : RH B G H w) {b o : Nat} {u : Value} (hs : G.S b o = some u) : b < w.heap.size := World.block_lt_of_cell? _ _ (h.st _ _ _ hs)
theorem Robj.lt {k : Nat} {o : AObj} (h : Robj G w k o) {b : Nat} {x : Nat × Nat × Nat} (hl : G.loc k = some (some b, x)) : b < w.heap.size := by
  obtain ⟨blk, base, cap, h1, _, _, _, h5⟩ := h
  rw [hl] at h1
  cases h1
  obtain ⟨vs, h6, _⟩ := h5
  exact (Array.getElem?_eq_some_iff.1 h6).1

/-- One block is new, or an object's own block is written. -/
theorem RH.step (h : RH B G H w) (hos : w'.os = w.os) (htape : w'.tape = w.tape) (hout : w'.output = w.output) (hsz : w.heap.size ≤ w'.heap.size) (hg : G.le G') (hS : G'.S = G.S) (b0 id0 : Nat)
    (hother : ∀ b, b ≠ b0 → b < w.heap.size → w'.heap[b]? = w.heap[b]?)
    (hb0 : w.heap.size ≤ b0 ∨ ∃ k o x, H k = some o ∧ G.loc k = some (some b0, x))
    (hH : ∀ k o, H' k = some o → (k = id0 ∧ Robj G' w' k o ∧ ∀ b x, G'.loc k = some (some b, x) → b = b0) ∨ (k ≠ id0 ∧ H k = some o ∧ ∀ b x, G.loc k = some (some b, x) → b ≠ b0)) :
    RH B G' H' w' := by
  have hown : B.w0.heap.size ≤ b0 ∨ b0 ∈ B.bs := by
    rcases hb0 with hb0 | ⟨k, o, x, h1, h2⟩
    · exact .inl (Nat.le_trans h.size hb0)
    · exact h.own k o h1 _ _ _ _ h2
  have hne : ∀ b o u, G.S b o = some u → b ≠ b0 := by
    intro b o u hs e
    subst e
    rcases hb0 with hb0 | ⟨k, ob, x, h1, h2⟩
    · have := h.blk_lt hs; omega
    · rw [h.sep k ob h1 _ _ h2] at hs; cases hs
  have hnone : ∀ p, G.S b0 p = none := by
    intro p
    cases hs : G.S b0 p with
    | none => rfl
    | some u => exact absurd rfl (hne _ _ _ hs)
  refine ⟨hos.trans h.os, htape.trans h.tape, hout.trans h.output, Nat.le_trans h.size hsz, fun b hb hn => ?_, fun k o hk => ?_, fun k o hk b base cap sz hl => ?_, fun k k' o o' hk hk' b x y hl hl' => ?_, fun b o u hs => ?_, fun k o hk b x hl p => ?_, fun b o u hs => h.fresh b o u (by rw [← hS]; exact hs), fun b o u hs => by rw [hS]; exact h.keep b o u hs, fun k l hk => hg.loc _ _ (h.fix k l hk), fun r hr => ?_, h.base⟩
  · rw [hother b (fun e => by subst e; rcases hown with h1 | h1; omega; exact hn h1) (Nat.lt_of_lt_of_le hb h.size)]
    exact h.old b hb hn
  · rcases hH k o hk with ⟨_, h1, _⟩ | ⟨_, h1, h2⟩
    · exact h1
    · exact (h.obj k o h1).mono hg fun b base cap sz hl => hother b (h2 _ _ hl) ((h.obj k o h1).lt hl)
  · rcases hH k o hk with ⟨_, h1, h2⟩ | ⟨_, h1, h2⟩
    · rw [h2 _ _ hl]; exact hown
    · obtain ⟨blk, ba, ca, h3, _⟩ := h.obj k o h1
      have := hg.loc _ _ h3
      rw [hl] at this
      cases this
      exact h.own k o h1 _ _ _ _ h3
  · have key : ∀ k o, H' k = some o → ∀ b x, G'.loc k = some (some b, x) → (k = id0 ∧ b = b0) ∨ (k ≠ id0 ∧ b ≠ b0 ∧ H k = some o ∧ G.loc k = some (some b, x)) := by
      intro k o hk b x hl
      rcases hH k o hk with ⟨h0, h1, h2⟩ | ⟨h0, h1, h2⟩
      · exact .inl ⟨h0, h2 _ _ hl⟩
      · obtain ⟨blk, ba, ca, h3, _⟩ := h.obj k o h1
        have h4 := hg.loc _ _ h3
        rw [hl] at h4
        cases h4
        exact .inr ⟨h0, h2 _ _ h3, h1, h3⟩
    rcases key k o hk b x hl with ⟨e1, e2⟩ | ⟨e1, e2, e3, e4⟩ <;> rcases key k' o' hk' b y hl' with ⟨f1, f2⟩ | ⟨f1, f2, f3, f4⟩
    · rw [e1, f1]
    · exact absurd e2 f2
    · exact absurd f2 e2
    · exact h.inj k k' o o' e3 f3 b x y e4 f4
  · rw [hS] at hs
    have h1 := h.st b o u hs
    have h2 := hne b o u hs
    have : w'.cell? ⟨b, o, none⟩ = w.cell? ⟨b, o, none⟩ := World.cell?_of_block (hother b h2 (h.blk_lt hs))
    rw [this]; exact h1
  · rw [hS]
    rcases hH k o hk with ⟨_, h1, h2⟩ | ⟨_, h1, h2⟩
    · rw [h2 _ _ hl]; exact hnone p
    · obtain ⟨blk, ba, ca, h3, _⟩ := h.obj k o h1
      have := hg.loc _ _ h3
      rw [hl] at this
      cases this
      exact h.sep k o h1 _ _ h3 p
  · obtain ⟨h1, h2⟩ := h.pin r hr
    refine ⟨?_, h2⟩
    rw [hother r (fun e => ?_) (Array.getElem?_eq_some_iff.1 h1).1]
    · exact h1
    · subst e
      rcases hb0 with hb0 | ⟨k, o, x, h3, h4⟩
      · have := (Array.getElem?_eq_some_iff.1 h1).1; omega
      · obtain ⟨blk, ba, ca, h5, _, _, _, h6⟩ := h.obj k o h3
        rw [h4] at h5
        cases h5
        obtain ⟨vs, h7, _⟩ := h6
        rw [h1] at h7; cases h7

/-- A name that is new. -/
def Gh.add (G : Gh) (id : Nat) (l : Option Nat × Nat × Nat × Nat) : Gh := { G with loc := fun k => if k = id then some l else G.loc k }
theorem Gh.add_le {id : Nat} {l : Option Nat × Nat × Nat × Nat} (h : G.loc id = none) : G.le (G.add id l) :=
  ⟨fun _ _ _ h => h, fun k m hk => by
    show (if k = id then some l else G.loc k) = some m
    rw [if_neg (fun e => by rw [e, h] at hk; cases hk)]; exact hk⟩
theorem Gh.add_self {id : Nat} {l : Option Nat × Nat × Nat × Nat} : (G.add id l).loc id = some l := if_pos rfl
end step

/-! ### Operations -/
abbrev Res := AV × List (Nat × Option AObj)
/-- An operation does what the abstract one says. -/
def CoreOk (P : Program) (o : Oper) (σ : AS) (r : Res) : Prop :=
  ∀ B G w a, R B G σ w a → ∀ (K : Act → World → Prop) (Q : Exit → Act → World → Prop), (∀ G' w' x, G.le G' → R B G' (σ.upd r.2) w' a → Rv G' r.1 x → K (a.put o.dst x) w') → o.wp P a w K Q

theorem upd_nil (σ : AS) : σ.upd [] = σ := rfl
theorem CoreOk.pure {P : Program} {o : Oper} {σ : AS} {av : AV} (h : ∀ B G w a, R B G σ w a → ∃ x, (execOp a.eval o).run P w = .ok (.value x) w ∧ Rv G av x) : CoreOk P o σ (av, []) := by
  intro B G w a hr K Q hK
  obtain ⟨x, h1, h2⟩ := h B G w a hr
  unfold Oper.wp
  rw [h1]
  exact hK G w x (Gh.le.refl G) hr h2
end Go.Proofs.Ytkollnaojpppcaa
