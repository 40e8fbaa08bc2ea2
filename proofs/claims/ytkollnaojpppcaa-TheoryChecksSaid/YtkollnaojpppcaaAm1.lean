/- An abstract machine for the text, part one: abstract values, objects, and what they stand for in memory; plain lemmas over any program; no condition. -/
import Derived.WalkKit
import Derived.WalkSpells
import Derived.WalkLawsBesides
import Derived.Lib.Hide
import Derived.Below
namespace Go.Proofs.Ytkollnaojpppcaa
open Go.RowKit

/-- The greatest length of a slice. -/
def AMax : Nat := 9223372036854775807

/-- Abstract values. -/
inductive AV where
  | any
  | v (x : Value)
  | agg (cs : List AV)
  | tup (cs : List AV)
  | sl (sz : Nat) (xs : List (List AV))
  | pt (cs : List AV)
  | ref (k off n : Nat)
  | ptr (k e j : Nat)
  | clo (f : FuncId) (cs : List AV)
  | yld (k : Nat)
  deriving Inhabited

mutual
/-- The names that a value bears. -/
def AV.ids : AV → List Nat
  | .any => []
  | .v _ => []
  | .agg cs => idsL cs
  | .tup cs => idsL cs
  | .sl _ xs => idsLL xs
  | .pt cs => idsL cs
  | .ref k _ _ => [k]
  | .ptr k _ _ => [k]
  | .clo _ cs => idsL cs
  | .yld k => [k]
def idsL : List AV → List Nat
  | [] => []
  | c :: cs => c.ids ++ idsL cs
def idsLL : List (List AV) → List Nat
  | [] => []
  | c :: cs => idsL c ++ idsLL cs
end

mutual
/-- Other names. -/
def AV.ren (ρ : Nat → Nat) : AV → AV
  | .any => .any
  | .v x => .v x
  | .agg cs => .agg (renL ρ cs)
  | .tup cs => .tup (renL ρ cs)
  | .sl sz xs => .sl sz (renLL ρ xs)
  | .pt cs => .pt (renL ρ cs)
  | .ref k o n => .ref (ρ k) o n
  | .ptr k e j => .ptr (ρ k) e j
  | .clo f cs => .clo f (renL ρ cs)
  | .yld k => .yld (ρ k)
def renL (ρ : Nat → Nat) : List AV → List AV
  | [] => []
  | c :: cs => c.ren ρ :: renL ρ cs
def renLL (ρ : Nat → Nat) : List (List AV) → List (List AV)
  | [] => []
  | c :: cs => renL ρ c :: renLL ρ cs
end

/-- What stays: cells that are never written again; and where the objects lie: block, first cell, capacity, cells of an element. -/
structure Gh where
  S : Nat → Nat → Option Value
  loc : Nat → Option (Option Nat × Nat × Nat × Nat)

/-- What an abstract value stands for. -/
inductive Rv (G : Gh) : AV → Value → Prop
  | any (x : Value) : Rv G .any x
  | v (x : Value) : Rv G (.v x) x
  | agg (cs : List AV) (us : List Value) (hl : us.length = cs.length) (h1 : ∀ u ∈ us, u.oneCell' = true) (h : ∀ i, i < cs.length → Rv G (cs.getD i .any) (us.getD i undef)) : Rv G (.agg cs) (.agg us.toArray)
  | tup (cs : List AV) (us : List Value) (hl : us.length = cs.length) (h : ∀ i, i < cs.length → Rv G (cs.getD i .any) (us.getD i undef)) : Rv G (.tup cs) (.tuple us.toArray)
  | sl (sz : Nat) (xs : List (List AV)) (a : Option Addr) (n c : Nat) (us : Nat → Nat → Value) (hn : n = xs.length) (hc : n ≤ c) (hm : n ≤ AMax) (h0 : a = none → c = 0)
      (hz : ∀ i, i < xs.length → (xs.getD i []).length = sz)
      (ha : 0 < xs.length → ∃ b o, a = some ⟨b, o, none⟩ ∧ ∀ i j, i < xs.length → j < sz → G.S b (o + i * sz + j) = some (us i j))
      (h1 : ∀ i j, i < xs.length → j < sz → (us i j).oneCell' = true)
      (h : ∀ i j, i < xs.length → j < sz → Rv G ((xs.getD i []).getD j .any) (us i j)) : Rv G (.sl sz xs) (.slice a n c)
  | pt (cs : List AV) (b o : Nat) (us : Nat → Value) (hS : ∀ j, j < cs.length → G.S b (o + j) = some (us j)) (h1 : ∀ j, j < cs.length → (us j).oneCell' = true)
      (h : ∀ j, j < cs.length → Rv G (cs.getD j .any) (us j)) : Rv G (.pt cs) (.pointer (some ⟨b, o, none⟩))
  | ref (k off n : Nat) (blk : Option Nat) (base cap sz : Nat) (a : Option Addr) (hk : G.loc k = some (blk, base, cap, sz)) (hle : off + n ≤ cap) (hm : cap ≤ 9223372036854775807)
      (hb : off < cap → ∃ b, blk = some b ∧ a = some ⟨b, base + off * sz, none⟩) (h0 : a = none → cap = off) : Rv G (.ref k off n) (.slice a n (cap - off))
  | ptr (k e j b base cap sz : Nat) (hk : G.loc k = some (some b, base, cap, sz)) : Rv G (.ptr k e j) (.pointer (some ⟨b, base + (e * sz + j), none⟩))
  | clo (f : FuncId) (cs : List AV) (us : List Value) (hl : us.length = cs.length) (h : ∀ i, i < cs.length → Rv G (cs.getD i .any) (us.getD i undef)) : Rv G (.clo f cs) (.func (.func f) #[] us.toArray)
  | yld (k l : Nat) (x : Nat × Nat × Nat) (hk : G.loc k = some (some l, x)) : Rv G (.yld k) (.func (.yield l) #[] #[])

/-- More is known. -/
structure Gh.le (G G' : Gh) : Prop where
  S : ∀ b o u, G.S b o = some u → G'.S b o = some u
  loc : ∀ k l, G.loc k = some l → G'.loc k = some l
theorem Gh.le.refl (G : Gh) : G.le G := ⟨fun _ _ _ h => h, fun _ _ h => h⟩
theorem Gh.le.trans {a b c : Gh} (h : a.le b) (k : b.le c) : a.le c := ⟨fun _ _ _ x => k.S _ _ _ (h.S _ _ _ x), fun _ _ x => k.loc _ _ (h.loc _ _ x)⟩

theorem Rv.mono {G G' : Gh} (hg : G.le G') {a : AV} {x : Value} (h : Rv G a x) : Rv G' a x := by
  induction h with
  | any x => exact .any x
  | v x => exact .v x
  | agg cs us hl h1 h ih => exact .agg cs us hl h1 ih
  | tup cs us hl h ih => exact .tup cs us hl ih
  | sl sz xs a n c us hn hc hm h0 hz ha h1 h ih =>
    exact .sl sz xs a n c us hn hc hm h0 hz (fun hp => let ⟨b, o, e, hs⟩ := ha hp; ⟨b, o, e, fun i j hi hj => hg.S _ _ _ (hs i j hi hj)⟩) h1 ih
  | pt cs b o us hS h1 h ih => exact .pt cs b o us (fun j hj => hg.S _ _ _ (hS j hj)) h1 ih
  | ref k off n blk base cap sz a hk hle hm hb h0 => exact .ref k off n blk base cap sz a (hg.loc _ _ hk) hle hm hb h0
  | ptr k e j b base cap sz hk => exact .ptr k e j b base cap sz (hg.loc _ _ hk)
  | clo f cs us hl h ih => exact .clo f cs us hl ih
  | yld k l x hk => exact .yld k l x (hg.loc _ _ hk)

theorem idsL_mem {cs : List AV} {i : Nat} (hi : i < cs.length) {k : Nat} (h : k ∈ (cs.getD i .any).ids) : k ∈ idsL cs := by
  induction cs generalizing i with
  | nil => simp at hi
  | cons c cs ih =>
    rw [idsL, List.mem_append]
    cases i with
    | zero => left; simpa using h
    | succ i => right; exact ih (by simpa using hi) (by simpa using h)
theorem idsLL_mem {xs : List (List AV)} {i : Nat} (hi : i < xs.length) {k : Nat} (h : k ∈ idsL (xs.getD i [])) : k ∈ idsLL xs := by
  induction xs generalizing i with
  | nil => simp at hi
  | cons c cs ih =>
    rw [idsLL, List.mem_append]
    cases i with
    | zero => left; simpa using h
    | succ i => right; exact ih (by simpa using hi) (by simpa using h)
theorem renL_getD {ρ : Nat → Nat} (cs : List AV) (i : Nat) : (renL ρ cs).getD i .any = (cs.getD i .any).ren ρ := by
  induction cs generalizing i with
  | nil => simp [renL, AV.ren]
  | cons c cs ih => cases i with
    | zero => simp [renL]
    | succ i => simpa [renL] using ih i
theorem renL_len {ρ : Nat → Nat} (cs : List AV) : (renL ρ cs).length = cs.length := by
  induction cs with
  | nil => rfl
  | cons c cs ih => simp [renL, ih]
theorem renLL_getD {ρ : Nat → Nat} (xs : List (List AV)) (i : Nat) : (renLL ρ xs).getD i [] = renL ρ (xs.getD i []) := by
  induction xs generalizing i with
  | nil => simp [renLL, renL]
  | cons c cs ih => cases i with
    | zero => simp [renLL]
    | succ i => simpa [renLL] using ih i
theorem renLL_len {ρ : Nat → Nat} (xs : List (List AV)) : (renLL ρ xs).length = xs.length := by
  induction xs with
  | nil => rfl
  | cons c cs ih => simp [renLL, ih]

/-- A value that bears names only where the new ghost knows them, by their new names. -/
theorem Rv.renamed {G G' : Gh} (ρ : Nat → Nat) (hS : ∀ b o u, G.S b o = some u → G'.S b o = some u) : ∀ {a : AV} {x : Value}, Rv G (a.ren ρ) x → (∀ k ∈ a.ids, ∀ l, G.loc (ρ k) = some l → G'.loc k = some l) → Rv G' a x := by
  intro a x h
  generalize hb : a.ren ρ = b at h
  induction h generalizing a with
  | any x => cases a <;> simp [AV.ren] at hb; intro _; exact .any x
  | v x => cases a <;> simp [AV.ren] at hb; subst hb; intro _; exact .v _
  | agg cs us hl h1 h ih =>
    cases a <;> simp [AV.ren] at hb
    rename_i cs0; subst hb; intro hk
    simp only [renL_len] at hl ih
    exact .agg cs0 us hl h1 fun i hi => ih i hi (renL_getD cs0 i).symm (fun k hkk => hk k (by rw [AV.ids]; exact idsL_mem hi hkk))
  | tup cs us hl h ih =>
    cases a <;> simp [AV.ren] at hb
    rename_i cs0; subst hb; intro hk
    simp only [renL_len] at hl ih
    exact .tup cs0 us hl fun i hi => ih i hi (renL_getD cs0 i).symm (fun k hkk => hk k (by rw [AV.ids]; exact idsL_mem hi hkk))
  | sl sz xs a' n c us hn hc hm h0 hz ha h1 h ih =>
    cases a <;> simp [AV.ren] at hb
    rename_i sz0 xs0; obtain ⟨rfl, rfl⟩ := hb; intro hk
    simp only [renLL_len] at hn hz ha h1 ih
    refine .sl sz0 xs0 a' n c us hn hc hm h0 (fun i hi => ?_) (fun hp => let ⟨b, o, e, hs⟩ := ha hp; ⟨b, o, e, fun i j hi hj => hS _ _ _ (hs i j hi hj)⟩) h1 (fun i j hi hj => ?_)
    · have := hz i hi; rw [renLL_getD, renL_len] at this; exact this
    · have hz' := hz i hi; rw [renLL_getD, renL_len] at hz'
      exact ih i j hi hj (by rw [renLL_getD, renL_getD]) (fun k hkk => hk k (by rw [AV.ids]; exact idsLL_mem hi (idsL_mem (by omega) hkk)))
  | pt cs b o us hS' h1 h ih =>
    cases a <;> simp [AV.ren] at hb
    rename_i cs0; subst hb; intro hk
    simp only [renL_len] at hS' h1 ih
    exact .pt cs0 b o us (fun j hj => hS _ _ _ (hS' j hj)) h1 fun i hi => ih i hi (renL_getD cs0 i).symm (fun k hkk => hk k (by rw [AV.ids]; exact idsL_mem hi hkk))
  | ref k off n blk base cap sz a' hk hle hm hb' h0 =>
    cases a <;> simp [AV.ren] at hb
    rename_i k0 o0 n0; obtain ⟨rfl, rfl, rfl⟩ := hb; intro hh
    exact .ref k0 _ _ blk base cap sz a' (hh k0 (by simp [AV.ids]) _ hk) hle hm hb' h0
  | ptr k e j b base cap sz hk =>
    cases a <;> simp [AV.ren] at hb
    rename_i k0 e0 j0; obtain ⟨rfl, rfl, rfl⟩ := hb; intro hh
    exact .ptr k0 _ _ b base cap sz (hh k0 (by simp [AV.ids]) _ hk)
  | clo f cs us hl h ih =>
    cases a <;> simp [AV.ren] at hb
    rename_i f0 cs0; obtain ⟨rfl, rfl⟩ := hb; intro hk
    simp only [renL_len] at hl ih
    exact .clo f0 cs0 us hl fun i hi => ih i hi (renL_getD cs0 i).symm (fun k hkk => hk k (by rw [AV.ids]; exact idsL_mem hi hkk))
  | yld k l x hk =>
    cases a <;> simp [AV.ren] at hb
    rename_i k0; subst hb; intro hh
    exact .yld k0 l x (hh k0 (by simp [AV.ids]) _ hk)

mutual
theorem AV.ren_id : ∀ a : AV, a.ren (fun k => k) = a
  | .any => by simp [AV.ren]
  | .v _ => by simp [AV.ren]
  | .agg cs => by rw [AV.ren, renL_id cs]
  | .tup cs => by rw [AV.ren, renL_id cs]
  | .sl _ xs => by rw [AV.ren, renLL_id xs]
  | .pt cs => by rw [AV.ren, renL_id cs]
  | .ref _ _ _ => by simp [AV.ren]
  | .ptr _ _ _ => by simp [AV.ren]
  | .clo _ cs => by rw [AV.ren, renL_id cs]
  | .yld _ => by simp [AV.ren]
theorem renL_id : ∀ cs : List AV, renL (fun k => k) cs = cs
  | [] => by simp [renL]
  | c :: cs => by rw [renL, AV.ren_id c, renL_id cs]
theorem renLL_id : ∀ cs : List (List AV), renLL (fun k => k) cs = cs
  | [] => by simp [renLL]
  | c :: cs => by rw [renLL, renL_id c, renLL_id cs]
end
mutual
theorem AV.ren_pure (ρ : Nat → Nat) : ∀ a : AV, a.ids = [] → a.ren ρ = a
  | .any, _ => by simp [AV.ren]
  | .v _, _ => by simp [AV.ren]
  | .agg cs, h => by rw [AV.ren, renL_pure ρ cs (by simpa [AV.ids] using h)]
  | .tup cs, h => by rw [AV.ren, renL_pure ρ cs (by simpa [AV.ids] using h)]
  | .sl _ xs, h => by rw [AV.ren, renLL_pure ρ xs (by simpa [AV.ids] using h)]
  | .pt cs, h => by rw [AV.ren, renL_pure ρ cs (by simpa [AV.ids] using h)]
  | .ref _ _ _, h => by simp [AV.ids] at h
  | .ptr _ _ _, h => by simp [AV.ids] at h
  | .clo _ cs, h => by rw [AV.ren, renL_pure ρ cs (by simpa [AV.ids] using h)]
  | .yld _, h => by simp [AV.ids] at h
theorem renL_pure (ρ : Nat → Nat) : ∀ cs : List AV, idsL cs = [] → renL ρ cs = cs
  | [], _ => by simp [renL]
  | c :: cs, h => by
    simp only [idsL, List.append_eq_nil_iff] at h
    rw [renL, AV.ren_pure ρ c h.1, renL_pure ρ cs h.2]
theorem renLL_pure (ρ : Nat → Nat) : ∀ cs : List (List AV), idsLL cs = [] → renLL ρ cs = cs
  | [], _ => by simp [renLL]
  | c :: cs, h => by
    simp only [idsLL, List.append_eq_nil_iff] at h
    rw [renLL, renL_pure ρ c h.1, renLL_pure ρ cs h.2]
end

/-- A value that bears no name needs what stays alone. -/
theorem Rv.pure {G G' : Gh} (hS : ∀ b o u, G.S b o = some u → G'.S b o = some u) {a : AV} {x : Value} (h : Rv G a x) (hp : a.ids = []) : Rv G' a x :=
  Rv.renamed (fun k => k) hS (by rw [AV.ren_id]; exact h) (fun k hk => by rw [hp] at hk; cases hk)

/-- An array of elements, or a variable (one element). -/
structure AObj where
  t : TypeId
  sz : Nat
  xs : List (List AV)
  deriving Inhabited

/-- What an object stands for. -/
def Robj (G : Gh) (w : World) (k : Nat) (o : AObj) : Prop :=
  ∃ blk base cap, G.loc k = some (blk, base, cap, o.sz) ∧ o.xs.length ≤ cap ∧ cap ≤ 9223372036854775807 ∧ (∀ i, i < o.xs.length → (o.xs.getD i []).length = o.sz) ∧
    match blk with
    | none => cap = 0
    | some b => ∃ vs : Array Value, w.heap[b]? = some (.cells vs o.t (0, 0)) ∧ base + cap * o.sz ≤ vs.size ∧
        ∀ i j, i < o.xs.length → j < o.sz → (vs.getD (base + (i * o.sz + j)) undef).oneCell' = true ∧ Rv G ((o.xs.getD i []).getD j .any) (vs.getD (base + (i * o.sz + j)) undef)

theorem Robj.mono {G G' : Gh} (hg : G.le G') {w w' : World} {k : Nat} {o : AObj} (h : Robj G w k o) (hw : ∀ b base cap sz, G.loc k = some (some b, base, cap, sz) → w'.heap[b]? = w.heap[b]?) : Robj G' w' k o := by
  obtain ⟨blk, base, cap, h1, h2, h3, h4, h5⟩ := h
  refine ⟨blk, base, cap, hg.loc _ _ h1, h2, h3, h4, ?_⟩
  cases blk with
  | none => exact h5
  | some b =>
    obtain ⟨vs, h6, h7, h8⟩ := h5
    exact ⟨vs, (hw _ _ _ _ h1).trans h6, h7, fun i j hi hj => ⟨(h8 i j hi hj).1, (h8 i j hi hj).2.mono hg⟩⟩

/-- Where a call began: the world, what stayed then, the blocks that it was lent, where the names lay that stay, which names stay, the marks of loops over functions, the round. -/
structure Base where
  w0 : World
  S0 : Nat → Nat → Option Value
  bs : List Nat
  L0 : Nat → Option (Option Nat × Nat × Nat × Nat) := fun _ => none
  I0 : List Nat := []
  D : List Nat := []
  ro : Option Nat := none
/-- With other marks. -/
def Base.d (B : Base) (D : List Nat) : Base := { B with D := D }
/-- A mark among the deferred calls: a loop over a function has been entered. -/
def mark (r : Nat) : Deferred := { target := .collected r, args := #[] }

/-- Memory as the abstract heap says. -/
structure RH (B : Base) (G : Gh) (H : Nat → Option AObj) (w : World) : Prop where
  os : w.os = B.w0.os
  tape : w.tape = B.w0.tape
  output : w.output = B.w0.output
  size : B.w0.heap.size ≤ w.heap.size
  old : ∀ b, b < B.w0.heap.size → b ∉ B.bs → w.heap[b]? = B.w0.heap[b]?
  obj : ∀ k o, H k = some o → Robj G w k o
  own : ∀ k o, H k = some o → ∀ b base cap sz, G.loc k = some (some b, base, cap, sz) → B.w0.heap.size ≤ b ∨ b ∈ B.bs
  inj : ∀ k k' o o', H k = some o → H k' = some o' → ∀ b x y, G.loc k = some (some b, x) → G.loc k' = some (some b, y) → k = k'
  st : ∀ b o u, G.S b o = some u → w.cell? ⟨b, o, none⟩ = some u
  sep : ∀ k o, H k = some o → ∀ b x, G.loc k = some (some b, x) → ∀ p, G.S b p = none
  fresh : ∀ b o u, G.S b o = some u → B.S0 b o = some u ∨ B.w0.heap.size ≤ b ∨ b ∈ B.bs
  keep : ∀ b o u, B.S0 b o = some u → G.S b o = some u
  fix : ∀ k l, B.L0 k = some l → G.loc k = some l
  pin : ∀ r ∈ B.D, w.heap[r]? = some (.deferred (some [])) ∧ B.w0.heap.size ≤ r
  base : B.D.Nodup ∧ ∀ k l, B.L0 k = some l → k ∈ B.I0

/-- The abstract state: slots, objects, names in use. -/
structure AS where
  n : Nat
  slots : List (Nat × AV)
  objs : List (Nat × AObj)
  ids : List Nat
  deriving Inhabited

def lk {α : Type} (l : List (Nat × α)) (t : Nat) : Option α :=
  match l with
  | [] => none
  | (e, u) :: r => if e = t then some u else lk r t
def st {α : Type} (l : List (Nat × α)) (t : Nat) (v : α) : List (Nat × α) :=
  match l with
  | [] => [(t, v)]
  | (e, u) :: r => if e = t then (t, v) :: r else (e, u) :: st r t v
def dl {α : Type} (l : List (Nat × α)) (t : Nat) : List (Nat × α) :=
  match l with
  | [] => []
  | (e, u) :: r => if e = t then dl r t else (e, u) :: dl r t
theorem lk_st {α : Type} (l : List (Nat × α)) (t s : Nat) (v : α) : lk (st l t v) s = if t = s then some v else lk l s := by
  induction l with
  | nil => simp [st, lk]
  | cons p r ih =>
    obtain ⟨e, u⟩ := p
    by_cases h : e = t
    · subst h; by_cases h2 : e = s <;> simp [st, lk, h2]
    · by_cases h2 : e = s
      · subst h2; simp [st, lk, h, Ne.symm h]
      · simp [st, lk, h, h2, ih]
theorem lk_dl {α : Type} (l : List (Nat × α)) (t s : Nat) : lk (dl l t) s = if t = s then none else lk l s := by
  induction l with
  | nil => simp [dl, lk]
  | cons p r ih =>
    obtain ⟨e, u⟩ := p
    by_cases h : e = t
    · subst h; by_cases h2 : e = s
      · simpa [dl, lk, h2] using ih
      · simpa [dl, lk, h2] using ih
    · by_cases h2 : e = s
      · subst h2; simp [dl, lk, h, Ne.symm h]
      · simp [dl, lk, h, h2, ih]

/-- The frame and the world as the abstract state says. -/
structure R (B : Base) (G : Gh) (σ : AS) (w : World) (a : Act) : Prop where
  n : a.tmps.size = σ.n
  slot : ∀ t av, lk σ.slots t = some av → t < σ.n ∧ Rv G av (a.tmps.getD t undef)
  defers : a.defers = B.D.map mark
  heap : RH B G (lk σ.objs) w
  ids : ∀ k, G.loc k ≠ none → k ∈ σ.ids

/-- An operand's abstract value. -/
def AS.ev (σ : AS) : Operand → Option AV
  | .tmp t => lk σ.slots t
  | .const x => some (.v x)
  | .func f => some (.v (.func (.func f) #[] #[]))
  | .global _ => none

theorem R.ev {B : Base} {G : Gh} {σ : AS} {w : World} {a : Act} (h : R B G σ w a) {x : Operand} {av : AV} (e : σ.ev x = some av) : Rv G av (a.eval x) := by
  cases x with
  | tmp t => exact (h.slot t av e).2
  | const x => simp only [AS.ev, Option.some.injEq] at e; subst e; exact .v _
  | func f => simp only [AS.ev, Option.some.injEq] at e; subst e; exact .v _
  | global g => simp [AS.ev] at e

/-- A slot is written. -/
def AS.put (σ : AS) (dst : Option Nat) (av : AV) : AS :=
  match dst with
  | some d => { σ with slots := st σ.slots d av }
  | none => σ
theorem R.put {B : Base} {G : Gh} {σ : AS} {w : World} {a : Act} (h : R B G σ w a) {dst : Option Nat} {av : AV} {x : Value} (hd : ∀ d, dst = some d → d < σ.n) (hx : Rv G av x) : R B G (σ.put dst av) w (a.put dst x) := by
  cases dst with
  | none => exact h
  | some d =>
    have hd := hd d rfl
    refine ⟨by simpa [Act.put, AS.put] using h.n, fun t bv hb => ?_, h.defers, h.heap, h.ids⟩
    simp only [AS.put, lk_st] at hb
    have hn := h.n
    simp only [AS.put, Act.put]
    split at hb
    · rename_i e; subst e
      cases hb
      exact ⟨hd, by simpa [Array.getElem?_setIfInBounds, show d < a.tmps.size by omega] using hx⟩
    · rename_i e
      obtain ⟨h1, h2⟩ := h.slot t bv hb
      refine ⟨h1, ?_⟩
      simpa [Array.getElem?_setIfInBounds, e] using h2

/-- Objects are written, made, let go. -/
def updO (objs : List (Nat × AObj)) : List (Nat × Option AObj) → List (Nat × AObj)
  | [] => objs
  | (k, some o) :: r => updO (st objs k o) r
  | (k, none) :: r => updO (dl objs k) r
def updI (ids : List Nat) : List (Nat × Option AObj) → List Nat
  | [] => ids
  | (k, _) :: r => updI (if k ∈ ids then ids else k :: ids) r
def AS.upd (σ : AS) (u : List (Nat × Option AObj)) : AS := { σ with objs := updO σ.objs u, ids := updI σ.ids u }
end Go.Proofs.Ytkollnaojpppcaa
