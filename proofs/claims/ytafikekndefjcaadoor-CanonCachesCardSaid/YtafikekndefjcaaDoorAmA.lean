/- An abstract machine for the text, part one: abstract values, objects, and what they stand for in memory; plain lemmas over any program; no condition. -/
import Derived.WalkKit
import Derived.WalkSpells
import Derived.WalkLawsBesides
import Derived.Lib.Hide
import Derived.Below
import Derived.MapKept
import Derived.Deep.MidRow
import Derived.Laws.CopyRow
import Derived.Laws.AppendOwn
import Derived.Great.BuildSlice
import Derived.ChangeKeysEq
import Derived.Laws.Append
import Derived.Laws.MakeOwn
import Derived.Laws.StructEq
import Derived.Laws.Small
import Derived.Laws.Slices
import Derived.Laws.BytesArg
import Derived.Sort.LoopGhostIn
import Derived.LoopN
import Derived.Scope
import Derived.TacticsIn
import Derived.OrdersIn
import Derived.RangeFuncIn
import Derived.RangeFuncLeaves
import Derived.RangeFuncRecord
/- Am1: An abstract machine for the text, part one: abstract values, objects, and what they stand for in memory; plain lemmas over any program; no condition. -/
namespace Go.Proofs.YtafikekndefjcaaDoor
set_option linter.unusedVariables false
set_option linter.unusedSimpArgs false
set_option linter.unusedSectionVars false
open Go.RowKit

def AMax : Nat := 9223372036854775807

inductive AV where
  | any
  | v (x : Value)
  | agg (cs : List AV)
  | tup (cs : List AV)
  | sl (sz : Nat) (xs : List (List AV))
  | pt (cs : List AV)
  | ref (k off n : Nat)
  | ptr (k e j : Nat)
  | clo (f : FuncId) (cs : List AV)
  | bnd (f : FuncId) (fs : List AV)
  | yld (k : Nat)
  | mp (k : Nat)
  deriving Inhabited

mutual
def AV.ids : AV → List Nat
  | .any => []
  | .v _ => []
  | .agg cs => idsL cs
  | .tup cs => idsL cs
  | .sl _ xs => idsLL xs
  | .pt cs => idsL cs
  | .ref k _ _ => [k]
  | .ptr k _ _ => [k]
  | .clo _ cs => idsL cs
  | .bnd _ cs => idsL cs
  | .yld k => [k]
  | .mp k => [k]
def idsL : List AV → List Nat
  | [] => []
  | c :: cs => c.ids ++ idsL cs
def idsLL : List (List AV) → List Nat
  | [] => []
  | c :: cs => idsL c ++ idsLL cs
end

mutual
def AV.ren (ρ : Nat → Nat) : AV → AV
  | .any => .any
  | .v x => .v x
  | .agg cs => .agg (renL ρ cs)
  | .tup cs => .tup (renL ρ cs)
  | .sl sz xs => .sl sz (renLL ρ xs)
  | .pt cs => .pt (renL ρ cs)
  | .ref k o n => .ref (ρ k) o n
  | .ptr k e j => .ptr (ρ k) e j
  | .clo f cs => .clo f (renL ρ cs)
  | .bnd f cs => .bnd f (renL ρ cs)
  | .yld k => .yld (ρ k)
  | .mp k => .mp (ρ k)
def renL (ρ : Nat → Nat) : List AV → List AV
  | [] => []
  | c :: cs => c.ren ρ :: renL ρ cs
def renLL (ρ : Nat → Nat) : List (List AV) → List (List AV)
  | [] => []
  | c :: cs => renL ρ c :: renLL ρ cs
end

structure Gh where
  S : Nat → Nat → Option Value
  loc : Nat → Option (Option Nat × Nat × Nat × Nat)

inductive Rv (G : Gh) : AV → Value → Prop
  | any (x : Value) : Rv G .any x
  | v (x : Value) : Rv G (.v x) x
  | agg (cs : List AV) (us : List Value) (hl : us.length = cs.length) (h1 : ∀ u ∈ us, u.oneCell' = true) (h : ∀ i, i < cs.length → Rv G (cs.getD i .any) (us.getD i undef)) : Rv G (.agg cs) (.agg us.toArray)
  | tup (cs : List AV) (us : List Value) (hl : us.length = cs.length) (h : ∀ i, i < cs.length → Rv G (cs.getD i .any) (us.getD i undef)) : Rv G (.tup cs) (.tuple us.toArray)
  | sl (sz : Nat) (xs : List (List AV)) (a : Option Addr) (n c : Nat) (us : Nat → Nat → Value) (hn : n = xs.length) (hc : n ≤ c) (hm : n ≤ AMax) (h0 : a = none → c = 0)
      (hz : ∀ i, i < xs.length → (xs.getD i []).length = sz)
      (ha : 0 < xs.length → ∃ b o, a = some ⟨b, o, none⟩ ∧ ∀ i j, i < xs.length → j < sz → G.S b (o + i * sz + j) = some (us i j))
      (h1 : ∀ i j, i < xs.length → j < sz → (us i j).oneCell' = true)
      (h : ∀ i j, i < xs.length → j < sz → Rv G ((xs.getD i []).getD j .any) (us i j)) : Rv G (.sl sz xs) (.slice a n c)
  | pt (cs : List AV) (b o : Nat) (us : Nat → Value) (hS : ∀ j, j < cs.length → G.S b (o + j) = some (us j)) (h1 : ∀ j, j < cs.length → (us j).oneCell' = true)
      (h : ∀ j, j < cs.length → Rv G (cs.getD j .any) (us j)) : Rv G (.pt cs) (.pointer (some ⟨b, o, none⟩))
  | ref (k off n : Nat) (blk : Option Nat) (base cap sz : Nat) (a : Option Addr) (hk : G.loc k = some (blk, base, cap, sz)) (hle : off + n ≤ cap) (hm : cap ≤ 9223372036854775807)
      (hb : off < cap → ∃ b, blk = some b ∧ a = some ⟨b, base + off * sz, none⟩) (h0 : a = none → cap = off) : Rv G (.ref k off n) (.slice a n (cap - off))
  | ptr (k e j b base cap sz : Nat) (hk : G.loc k = some (some b, base, cap, sz)) : Rv G (.ptr k e j) (.pointer (some ⟨b, base + (e * sz + j), none⟩))
  | clo (f : FuncId) (cs : List AV) (us : List Value) (hl : us.length = cs.length) (h : ∀ i, i < cs.length → Rv G (cs.getD i .any) (us.getD i undef)) : Rv G (.clo f cs) (.func (.func f) #[] us.toArray)
  | bnd (f : FuncId) (cs : List AV) (us : List Value) (hl : us.length = cs.length) (h : ∀ i, i < cs.length → Rv G (cs.getD i .any) (us.getD i undef)) : Rv G (.bnd f cs) (.func (.func f) us.toArray #[])
  | yld (k l : Nat) (x : Nat × Nat × Nat) (hk : G.loc k = some (some l, x)) : Rv G (.yld k) (.func (.yield l) #[] #[])
  | mp (k b : Nat) (x : Nat × Nat × Nat) (hk : G.loc k = some (some b, x)) : Rv G (.mp k) (.map (some b))

structure Gh.le (G G' : Gh) : Prop where
  S : ∀ b o u, G.S b o = some u → G'.S b o = some u
  loc : ∀ k l, G.loc k = some l → G'.loc k = some l
theorem Gh.le.refl (G : Gh) : G.le G := ⟨fun _ _ _ h => h, fun _ _ h => h⟩
theorem Gh.le.trans {a b c : Gh} (h : a.le b) (k : b.le c) : a.le c := ⟨fun _ _ _ x => k.S _ _ _ (h.S _ _ _ x), fun _ _ x => k.loc _ _ (h.loc _ _ x)⟩

theorem Rv.mono {G G' : Gh} (hg : G.le G') {a : AV} {x : Value} (h : Rv G a x) : Rv G' a x := by
  induction h with
  | any x => exact .any x
  | v x => exact .v x
  | agg cs us hl h1 h ih => exact .agg cs us hl h1 ih
  | tup cs us hl h ih => exact .tup cs us hl ih
  | sl sz xs a n c us hn hc hm h0 hz ha h1 h ih =>
    exact .sl sz xs a n c us hn hc hm h0 hz (fun hp => let ⟨b, o, e, hs⟩ := ha hp; ⟨b, o, e, fun i j hi hj => hg.S _ _ _ (hs i j hi hj)⟩) h1 ih
  | pt cs b o us hS h1 h ih => exact .pt cs b o us (fun j hj => hg.S _ _ _ (hS j hj)) h1 ih
  | ref k off n blk base cap sz a hk hle hm hb h0 => exact .ref k off n blk base cap sz a (hg.loc _ _ hk) hle hm hb h0
  | ptr k e j b base cap sz hk => exact .ptr k e j b base cap sz (hg.loc _ _ hk)
  | clo f cs us hl h ih => exact .clo f cs us hl ih
  | bnd f cs us hl h ih => exact .bnd f cs us hl ih
  | yld k l x hk => exact .yld k l x (hg.loc _ _ hk)
  | mp k l x hk => exact .mp k l x (hg.loc _ _ hk)

theorem idsL_mem {cs : List AV} {i : Nat} (hi : i < cs.length) {k : Nat} (h : k ∈ (cs.getD i .any).ids) : k ∈ idsL cs := by
  induction cs generalizing i with
  | nil => simp at hi
  | cons c cs ih =>
    rw [idsL, List.mem_append]
    cases i with
    | zero => left; simpa using h
    | succ i => right; exact ih (by simpa using hi) (by simpa using h)
theorem idsLL_mem {xs : List (List AV)} {i : Nat} (hi : i < xs.length) {k : Nat} (h : k ∈ idsL (xs.getD i [])) : k ∈ idsLL xs := by
  induction xs generalizing i with
  | nil => simp at hi
  | cons c cs ih =>
    rw [idsLL, List.mem_append]
    cases i with
    | zero => left; simpa using h
    | succ i => right; exact ih (by simpa using hi) (by simpa using h)
theorem renL_getD {ρ : Nat → Nat} (cs : List AV) (i : Nat) : (renL ρ cs).getD i .any = (cs.getD i .any).ren ρ := by
  induction cs generalizing i with
  | nil => simp [renL, AV.ren]
  | cons c cs ih => cases i with
    | zero => simp [renL]
    | succ i => simpa [renL] using ih i
theorem renL_len {ρ : Nat → Nat} (cs : List AV) : (renL ρ cs).length = cs.length := by
  induction cs with
  | nil => rfl
  | cons c cs ih => simp [renL, ih]
theorem renLL_getD {ρ : Nat → Nat} (xs : List (List AV)) (i : Nat) : (renLL ρ xs).getD i [] = renL ρ (xs.getD i []) := by
  induction xs generalizing i with
  | nil => simp [renLL, renL]
  | cons c cs ih => cases i with
    | zero => simp [renLL]
    | succ i => simpa [renLL] using ih i
theorem renLL_len {ρ : Nat → Nat} (xs : List (List AV)) : (renLL ρ xs).length = xs.length := by
  induction xs with
  | nil => rfl
  | cons c cs ih => simp [renLL, ih]

theorem Rv.renamed {G G' : Gh} (ρ : Nat → Nat) (hS : ∀ b o u, G.S b o = some u → G'.S b o = some u) : ∀ {a : AV} {x : Value}, Rv G (a.ren ρ) x → (∀ k ∈ a.ids, ∀ l, G.loc (ρ k) = some l → G'.loc k = some l) → Rv G' a x := by
  intro a x h
  generalize hb : a.ren ρ = b at h
  induction h generalizing a with
  | any x => cases a <;> simp [AV.ren] at hb; intro _; exact .any x
  | v x => cases a <;> simp [AV.ren] at hb; subst hb; intro _; exact .v _
  | agg cs us hl h1 h ih =>
    cases a <;> simp [AV.ren] at hb
    rename_i cs0; subst hb; intro hk
    simp only [renL_len] at hl ih
    exact .agg cs0 us hl h1 fun i hi => ih i hi (renL_getD cs0 i).symm (fun k hkk => hk k (by rw [AV.ids]; exact idsL_mem hi hkk))
  | tup cs us hl h ih =>
    cases a <;> simp [AV.ren] at hb
    rename_i cs0; subst hb; intro hk
    simp only [renL_len] at hl ih
    exact .tup cs0 us hl fun i hi => ih i hi (renL_getD cs0 i).symm (fun k hkk => hk k (by rw [AV.ids]; exact idsL_mem hi hkk))
  | sl sz xs a' n c us hn hc hm h0 hz ha h1 h ih =>
    cases a <;> simp [AV.ren] at hb
    rename_i sz0 xs0; obtain ⟨rfl, rfl⟩ := hb; intro hk
    simp only [renLL_len] at hn hz ha h1 ih
    refine .sl sz0 xs0 a' n c us hn hc hm h0 (fun i hi => ?_) (fun hp => let ⟨b, o, e, hs⟩ := ha hp; ⟨b, o, e, fun i j hi hj => hS _ _ _ (hs i j hi hj)⟩) h1 (fun i j hi hj => ?_)
    · have := hz i hi; rw [renLL_getD, renL_len] at this; exact this
    · have hz' := hz i hi; rw [renLL_getD, renL_len] at hz'
      exact ih i j hi hj (by rw [renLL_getD, renL_getD]) (fun k hkk => hk k (by rw [AV.ids]; exact idsLL_mem hi (idsL_mem (by omega) hkk)))
  | pt cs b o us hS' h1 h ih =>
    cases a <;> simp [AV.ren] at hb
    rename_i cs0; subst hb; intro hk
    simp only [renL_len] at hS' h1 ih
    exact .pt cs0 b o us (fun j hj => hS _ _ _ (hS' j hj)) h1 fun i hi => ih i hi (renL_getD cs0 i).symm (fun k hkk => hk k (by rw [AV.ids]; exact idsL_mem hi hkk))
  | ref k off n blk base cap sz a' hk hle hm hb' h0 =>
    cases a <;> simp [AV.ren] at hb
    rename_i k0 o0 n0; obtain ⟨rfl, rfl, rfl⟩ := hb; intro hh
    exact .ref k0 _ _ blk base cap sz a' (hh k0 (by simp [AV.ids]) _ hk) hle hm hb' h0
  | ptr k e j b base cap sz hk =>
    cases a <;> simp [AV.ren] at hb
    rename_i k0 e0 j0; obtain ⟨rfl, rfl, rfl⟩ := hb; intro hh
    exact .ptr k0 _ _ b base cap sz (hh k0 (by simp [AV.ids]) _ hk)
  | clo f cs us hl h ih =>
    cases a <;> simp [AV.ren] at hb
    rename_i f0 cs0; obtain ⟨rfl, rfl⟩ := hb; intro hk
    simp only [renL_len] at hl ih
    exact .clo f0 cs0 us hl fun i hi => ih i hi (renL_getD cs0 i).symm (fun k hkk => hk k (by rw [AV.ids]; exact idsL_mem hi hkk))
  | bnd f cs us hl h ih =>
    cases a <;> simp [AV.ren] at hb
    rename_i f0 cs0; obtain ⟨rfl, rfl⟩ := hb; intro hk
    simp only [renL_len] at hl ih
    exact .bnd f0 cs0 us hl fun i hi => ih i hi (renL_getD cs0 i).symm (fun k hkk => hk k (by rw [AV.ids]; exact idsL_mem hi hkk))
  | yld k l x hk =>
    cases a <;> simp [AV.ren] at hb
    rename_i k0; subst hb; intro hh
    exact .yld k0 l x (hh k0 (by simp [AV.ids]) _ hk)
  | mp k l x hk =>
    cases a <;> simp [AV.ren] at hb
    rename_i k0; subst hb; intro hh
    exact .mp k0 l x (hh k0 (by simp [AV.ids]) _ hk)

mutual
theorem AV.ren_id : ∀ a : AV, a.ren (fun k => k) = a
  | .any => by simp [AV.ren]
  | .v _ => by simp [AV.ren]
  | .agg cs => by rw [AV.ren, renL_id cs]
  | .tup cs => by rw [AV.ren, renL_id cs]
  | .sl _ xs => by rw [AV.ren, renLL_id xs]
  | .pt cs => by rw [AV.ren, renL_id cs]
  | .ref _ _ _ => by simp [AV.ren]
  | .ptr _ _ _ => by simp [AV.ren]
  | .clo _ cs => by rw [AV.ren, renL_id cs]
  | .bnd _ cs => by rw [AV.ren, renL_id cs]
  | .yld _ => by simp [AV.ren]
  | .mp _ => by simp [AV.ren]
theorem renL_id : ∀ cs : List AV, renL (fun k => k) cs = cs
  | [] => by simp [renL]
  | c :: cs => by rw [renL, AV.ren_id c, renL_id cs]
theorem renLL_id : ∀ cs : List (List AV), renLL (fun k => k) cs = cs
  | [] => by simp [renLL]
  | c :: cs => by rw [renLL, renL_id c, renLL_id cs]
end
mutual
theorem AV.ren_pure (ρ : Nat → Nat) : ∀ a : AV, a.ids = [] → a.ren ρ = a
  | .any, _ => by simp [AV.ren]
  | .v _, _ => by simp [AV.ren]
  | .agg cs, h => by rw [AV.ren, renL_pure ρ cs (by simpa [AV.ids] using h)]
  | .tup cs, h => by rw [AV.ren, renL_pure ρ cs (by simpa [AV.ids] using h)]
  | .sl _ xs, h => by rw [AV.ren, renLL_pure ρ xs (by simpa [AV.ids] using h)]
  | .pt cs, h => by rw [AV.ren, renL_pure ρ cs (by simpa [AV.ids] using h)]
  | .ref _ _ _, h => by simp [AV.ids] at h
  | .ptr _ _ _, h => by simp [AV.ids] at h
  | .clo _ cs, h => by rw [AV.ren, renL_pure ρ cs (by simpa [AV.ids] using h)]
  | .bnd _ cs, h => by rw [AV.ren, renL_pure ρ cs (by simpa [AV.ids] using h)]
  | .yld _, h => by simp [AV.ids] at h
  | .mp _, h => by simp [AV.ids] at h
theorem renL_pure (ρ : Nat → Nat) : ∀ cs : List AV, idsL cs = [] → renL ρ cs = cs
  | [], _ => by simp [renL]
  | c :: cs, h => by
    simp only [idsL, List.append_eq_nil_iff] at h
    rw [renL, AV.ren_pure ρ c h.1, renL_pure ρ cs h.2]
theorem renLL_pure (ρ : Nat → Nat) : ∀ cs : List (List AV), idsLL cs = [] → renLL ρ cs = cs
  | [], _ => by simp [renLL]
  | c :: cs, h => by
    simp only [idsLL, List.append_eq_nil_iff] at h
    rw [renLL, renL_pure ρ c h.1, renLL_pure ρ cs h.2]
end

theorem Rv.pure {G G' : Gh} (hS : ∀ b o u, G.S b o = some u → G'.S b o = some u) {a : AV} {x : Value} (h : Rv G a x) (hp : a.ids = []) : Rv G' a x :=
  Rv.renamed (fun k => k) hS (by rw [AV.ren_id]; exact h) (fun k hk => by rw [hp] at hk; cases hk)

structure AObj where
  t : TypeId
  sz : Nat
  xs : List (List AV)
  deriving Inhabited

def CellsAt (G : Gh) (w : World) (blk : Option Nat) (base cap : Nat) (o : AObj) : Prop :=
  o.xs.length ≤ cap ∧ cap ≤ 9223372036854775807 ∧ (∀ i, i < o.xs.length → (o.xs.getD i []).length = o.sz) ∧
    match blk with
    | none => cap = 0
    | some b => ∃ vs : Array Value, w.heap[b]? = some (.cells vs o.t (0, 0)) ∧ base + cap * o.sz ≤ vs.size ∧
        ∀ i j, i < o.xs.length → j < o.sz → (vs.getD (base + (i * o.sz + j)) undef).oneCell' = true ∧ Rv G ((o.xs.getD i []).getD j .any) (vs.getD (base + (i * o.sz + j)) undef)
def MapAt (G : Gh) (w : World) (b : Nat) (o : AObj) : Prop :=
  ∃ es clock, w.heap[b]? = some (.map es clock) ∧ MapKept.Stamped es clock ∧ es.size = o.xs.length ∧ ∀ i, i < o.xs.length → ∃ e k av, es[i]? = some e ∧ o.xs.getD i [] = [.v k, av] ∧ e.key = k ∧ e.val.oneCell' = true ∧ Rv G av e.val
def Robj (G : Gh) (w : World) (k : Nat) (o : AObj) : Prop :=
  ∃ blk base cap, G.loc k = some (blk, base, cap, o.sz) ∧ if o.sz = 0 then ∃ b, blk = some b ∧ MapAt G w b o else CellsAt G w blk base cap o
theorem Robj.cells {G : Gh} {w : World} {k : Nat} {o : AObj} (h : Robj G w k o) (hz : 0 < o.sz) : ∃ blk base cap, G.loc k = some (blk, base, cap, o.sz) ∧ o.xs.length ≤ cap ∧ cap ≤ 9223372036854775807 ∧ (∀ i, i < o.xs.length → (o.xs.getD i []).length = o.sz) ∧
    match blk with
    | none => cap = 0
    | some b => ∃ vs : Array Value, w.heap[b]? = some (.cells vs o.t (0, 0)) ∧ base + cap * o.sz ≤ vs.size ∧
        ∀ i j, i < o.xs.length → j < o.sz → (vs.getD (base + (i * o.sz + j)) undef).oneCell' = true ∧ Rv G ((o.xs.getD i []).getD j .any) (vs.getD (base + (i * o.sz + j)) undef) := by
  obtain ⟨blk, base, cap, h1, h2⟩ := h
  rw [if_neg (by omega)] at h2
  exact ⟨blk, base, cap, h1, h2⟩
theorem Robj.of {G : Gh} {w : World} {k : Nat} {o : AObj} (hz : 0 < o.sz) (h : ∃ blk base cap, G.loc k = some (blk, base, cap, o.sz) ∧ o.xs.length ≤ cap ∧ cap ≤ 9223372036854775807 ∧ (∀ i, i < o.xs.length → (o.xs.getD i []).length = o.sz) ∧
    match blk with
    | none => cap = 0
    | some b => ∃ vs : Array Value, w.heap[b]? = some (.cells vs o.t (0, 0)) ∧ base + cap * o.sz ≤ vs.size ∧
        ∀ i j, i < o.xs.length → j < o.sz → (vs.getD (base + (i * o.sz + j)) undef).oneCell' = true ∧ Rv G ((o.xs.getD i []).getD j .any) (vs.getD (base + (i * o.sz + j)) undef)) : Robj G w k o := by
  obtain ⟨blk, base, cap, h1, h2⟩ := h
  exact ⟨blk, base, cap, h1, by rw [if_neg (by omega)]; exact h2⟩
theorem Robj.map {G : Gh} {w : World} {k : Nat} {o : AObj} (h : Robj G w k o) (hz : o.sz = 0) : ∃ b base cap, G.loc k = some (some b, base, cap, 0) ∧ MapAt G w b o := by
  obtain ⟨blk, base, cap, h1, h2⟩ := h
  rw [if_pos hz] at h2
  obtain ⟨b, rfl, h3⟩ := h2
  exact ⟨b, base, cap, hz ▸ h1, h3⟩
theorem Robj.ofMap {G : Gh} {w : World} {k : Nat} {o : AObj} (hz : o.sz = 0) {b base cap : Nat} (h1 : G.loc k = some (some b, base, cap, 0)) (h : MapAt G w b o) : Robj G w k o :=
  ⟨some b, base, cap, by rw [hz]; exact h1, by rw [if_pos hz]; exact ⟨b, rfl, h⟩⟩
theorem MapAt.mono {G G' : Gh} (hg : G.le G') {w w' : World} {b : Nat} {o : AObj} (h : MapAt G w b o) (hw : w'.heap[b]? = w.heap[b]?) : MapAt G' w' b o := by
  obtain ⟨es, clock, h1, hs, h2, h3⟩ := h
  refine ⟨es, clock, hw.trans h1, hs, h2, fun i hi => ?_⟩
  obtain ⟨e, k, av, a1, a2, a3, a4, a5⟩ := h3 i hi
  exact ⟨e, k, av, a1, a2, a3, a4, a5.mono hg⟩

theorem Robj.mono {G G' : Gh} (hg : G.le G') {w w' : World} {k : Nat} {o : AObj} (h : Robj G w k o) (hw : ∀ b base cap sz, G.loc k = some (some b, base, cap, sz) → w'.heap[b]? = w.heap[b]?) : Robj G' w' k o := by
  by_cases hz : o.sz = 0
  · obtain ⟨b, base, cap, h1, h2⟩ := h.map hz
    exact .ofMap hz (hg.loc _ _ h1) (h2.mono hg (hw _ _ _ _ h1))
  obtain ⟨blk, base, cap, h1, h2, h3, h4, h5⟩ := h.cells (by omega)
  refine .of (by omega) ⟨blk, base, cap, hg.loc _ _ h1, h2, h3, h4, ?_⟩
  cases blk with
  | none => exact h5
  | some b =>
    obtain ⟨vs, h6, h7, h8⟩ := h5
    exact ⟨vs, (hw _ _ _ _ h1).trans h6, h7, fun i j hi hj => ⟨(h8 i j hi hj).1, (h8 i j hi hj).2.mono hg⟩⟩

def tabZ : List Int := [0, 1, 56, 2, 57, 49, 28, 3, 61, 58, 42, 50, 38, 29, 17, 4, 62, 47, 59, 36, 45, 43, 51, 22, 53, 39, 33, 30, 24, 18, 12, 5, 63, 55, 48, 27, 60, 41, 37, 16, 46, 35, 44, 21, 52, 32, 23, 11, 54, 26, 40, 15, 34, 20, 31, 10, 25, 14, 19, 9, 13, 8, 7, 6]
def gvars (g : Nat) : Option (List Value) := if g = 0 then some (tabZ.map fun x => .int .u8 x) else none
def GlobIn (S : Nat → Nat → Option Value) : Prop := ∀ g l, gvars g = some l → (∀ j, j < l.length → S g j = some (l.getD j undef)) ∧ ∀ u ∈ l, u.oneCell' = true
structure Base where
  w0 : World
  S0 : Nat → Nat → Option Value
  bs : List Nat
  L0 : Nat → Option (Option Nat × Nat × Nat × Nat) := fun _ => none
  I0 : List Nat := []
  D : List Nat := []
  ro : Option Nat := none
def Base.d (B : Base) (D : List Nat) : Base := { B with D := D }
def mark (r : Nat) : Deferred := { target := .collected r, args := #[] }

structure RH (B : Base) (G : Gh) (H : Nat → Option AObj) (w : World) : Prop where
  os : w.os = B.w0.os
  tape : w.tape = B.w0.tape
  output : w.output = B.w0.output
  size : B.w0.heap.size ≤ w.heap.size
  old : ∀ b, b < B.w0.heap.size → b ∉ B.bs → w.heap[b]? = B.w0.heap[b]?
  obj : ∀ k o, H k = some o → Robj G w k o
  own : ∀ k o, H k = some o → ∀ b base cap sz, G.loc k = some (some b, base, cap, sz) → B.w0.heap.size ≤ b ∨ b ∈ B.bs
  inj : ∀ k k' o o', H k = some o → H k' = some o' → ∀ b x y, G.loc k = some (some b, x) → G.loc k' = some (some b, y) → k = k'
  st : ∀ b o u, G.S b o = some u → w.cell? ⟨b, o, none⟩ = some u
  sep : ∀ k o, H k = some o → ∀ b x, G.loc k = some (some b, x) → ∀ p, G.S b p = none
  fresh : ∀ b o u, G.S b o = some u → B.S0 b o = some u ∨ B.w0.heap.size ≤ b ∨ b ∈ B.bs
  keep : ∀ b o u, B.S0 b o = some u → G.S b o = some u
  fix : ∀ k l, B.L0 k = some l → G.loc k = some l
  pin : ∀ r ∈ B.D, w.heap[r]? = some (.deferred (some [])) ∧ B.w0.heap.size ≤ r
  base : B.D.Nodup ∧ (∀ k l, B.L0 k = some l → k ∈ B.I0) ∧ GlobIn B.S0

structure AS where
  n : Nat
  slots : List (Nat × AV)
  objs : List (Nat × AObj)
  ids : List Nat
  deriving Inhabited

def lk {α : Type} (l : List (Nat × α)) (t : Nat) : Option α :=
  match l with
  | [] => none
  | (e, u) :: r => if e = t then some u else lk r t
def st {α : Type} (l : List (Nat × α)) (t : Nat) (v : α) : List (Nat × α) :=
  match l with
  | [] => [(t, v)]
  | (e, u) :: r => if e = t then (t, v) :: r else (e, u) :: st r t v
def dl {α : Type} (l : List (Nat × α)) (t : Nat) : List (Nat × α) :=
  match l with
  | [] => []
  | (e, u) :: r => if e = t then dl r t else (e, u) :: dl r t
theorem lk_st {α : Type} (l : List (Nat × α)) (t s : Nat) (v : α) : lk (st l t v) s = if t = s then some v else lk l s := by
  induction l with
  | nil => simp [st, lk]
  | cons p r ih =>
    obtain ⟨e, u⟩ := p
    by_cases h : e = t
    · subst h; by_cases h2 : e = s <;> simp [st, lk, h2]
    · by_cases h2 : e = s
      · subst h2; simp [st, lk, h, Ne.symm h]
      · simp [st, lk, h, h2, ih]
theorem lk_dl {α : Type} (l : List (Nat × α)) (t s : Nat) : lk (dl l t) s = if t = s then none else lk l s := by
  induction l with
  | nil => simp [dl, lk]
  | cons p r ih =>
    obtain ⟨e, u⟩ := p
    by_cases h : e = t
    · subst h; by_cases h2 : e = s
      · simpa [dl, lk, h2] using ih
      · simpa [dl, lk, h2] using ih
    · by_cases h2 : e = s
      · subst h2; simp [dl, lk, h, Ne.symm h]
      · simp [dl, lk, h, h2, ih]

structure R (B : Base) (G : Gh) (σ : AS) (w : World) (a : Act) : Prop where
  n : a.tmps.size = σ.n
  slot : ∀ t av, lk σ.slots t = some av → t < σ.n ∧ Rv G av (a.tmps.getD t undef)
  defers : a.defers = B.D.map mark
  heap : RH B G (lk σ.objs) w
  ids : ∀ k, G.loc k ≠ none → k ∈ σ.ids

def AS.ev (σ : AS) : Operand → Option AV
  | .tmp t => lk σ.slots t
  | .const x => some (.v x)
  | .func f => some (.v (.func (.func f) #[] #[]))
  | .global g => (gvars g).map fun l => .pt (l.map .v)

theorem R.ev {B : Base} {G : Gh} {σ : AS} {w : World} {a : Act} (h : R B G σ w a) {x : Operand} {av : AV} (e : σ.ev x = some av) : Rv G av (a.eval x) := by
  cases x with
  | tmp t => exact (h.slot t av e).2
  | const x => simp only [AS.ev, Option.some.injEq] at e; subst e; exact .v _
  | func f => simp only [AS.ev, Option.some.injEq] at e; subst e; exact .v _
  | global g =>
    simp only [AS.ev, Option.map_eq_some_iff] at e
    obtain ⟨l, hl, rfl⟩ := e
    obtain ⟨h1, h2⟩ := h.heap.base.2.2 g l hl
    refine .pt _ g 0 (fun j => l.getD j undef) (fun j hj => ?_) (fun j hj => ?_) (fun j hj => ?_)
    · rw [Nat.zero_add]; exact h.heap.keep _ _ _ (h1 j (by simpa using hj))
    · rw [List.length_map] at hj
      simp only [List.getD, List.getElem?_eq_getElem hj, Option.getD_some]
      exact h2 _ (List.getElem_mem hj)
    · rw [List.length_map] at hj
      simp only [List.getD, List.getElem?_map, List.getElem?_eq_getElem hj, Option.map_some, Option.getD_some]
      exact .v _

def AS.put (σ : AS) (dst : Option Nat) (av : AV) : AS :=
  match dst with
  | some d => { σ with slots := st σ.slots d av }
  | none => σ
theorem R.put {B : Base} {G : Gh} {σ : AS} {w : World} {a : Act} (h : R B G σ w a) {dst : Option Nat} {av : AV} {x : Value} (hd : ∀ d, dst = some d → d < σ.n) (hx : Rv G av x) : R B G (σ.put dst av) w (a.put dst x) := by
  cases dst with
  | none => exact h
  | some d =>
    have hd := hd d rfl
    refine ⟨by simpa [Act.put, AS.put] using h.n, fun t bv hb => ?_, h.defers, h.heap, h.ids⟩
    simp only [AS.put, lk_st] at hb
    have hn := h.n
    simp only [AS.put, Act.put]
    split at hb
    · rename_i e; subst e
      cases hb
      exact ⟨hd, by simpa [Array.getElem?_setIfInBounds, show d < a.tmps.size by omega] using hx⟩
    · rename_i e
      obtain ⟨h1, h2⟩ := h.slot t bv hb
      refine ⟨h1, ?_⟩
      simpa [Array.getElem?_setIfInBounds, e] using h2

def updO (objs : List (Nat × AObj)) : List (Nat × Option AObj) → List (Nat × AObj)
  | [] => objs
  | (k, some o) :: r => updO (st objs k o) r
  | (k, none) :: r => updO (dl objs k) r
def updI (ids : List Nat) : List (Nat × Option AObj) → List Nat
  | [] => ids
  | (k, _) :: r => updI (if k ∈ ids then ids else k :: ids) r
def AS.upd (σ : AS) (u : List (Nat × Option AObj)) : AS := { σ with objs := updO σ.objs u, ids := updI σ.ids u }
end Go.Proofs.YtafikekndefjcaaDoor
/- Am2: An abstract machine for the text, part two: what is known of types; a step of memory; operations that only read; plain lemmas over any program; no condition. -/
namespace Go.Proofs.YtafikekndefjcaaDoor
set_option linter.unusedVariables false
set_option linter.unusedSimpArgs false
set_option linter.unusedSectionVars false
open Go.RowKit

inductive TK where
  | plain (d : TypeDesc)
  | strct (fs : List (Nat × Nat × Bool))
  | arr (len esz : Nat) (eagg : Bool)
  | slice (e : TypeId) (esz ebytes : Nat) (ez : List Value)
  deriving Inhabited
structure TI where
  size : Nat
  agg : Bool
  zero : List Value
  kind : TK
  eqk : Option Bool
  deriving Inhabited
def aggB (d : TypeDesc) : Bool := match d with | .struct _ | .array _ _ => true | _ => false

structure TIok (P : Program) (t : TypeId) (ti : TI) : Prop where
  i : ∃ i z d, P.info? t = some i ∧ i.zero = some z ∧ P.underlying t = some d ∧ z.cells.toList = ti.zero ∧ i.size = ti.size ∧ aggB d = ti.agg ∧
    match ti.kind with
    | .plain d' => d = d'
    | .strct fs => ∃ fields : Array Field, d = .struct fields ∧ fields.size = fs.length ∧ ∀ (f o s : Nat) (g : Bool), fs[f]? = some (o, s, g) → ∃ fl : Field, fields[f]? = some fl ∧ fl.offset = o ∧ (∃ j, P.info? fl.type = some j ∧ j.size = s) ∧ ∃ e, P.underlying fl.type = some e ∧ aggB e = g
    | .arr len s g => ∃ e, d = .array len e ∧ (∃ j, P.info? e = some j ∧ j.size = s) ∧ ∃ u, P.underlying e = some u ∧ aggB u = g
    | .slice e s b ez => d = .slice e ∧ ∃ j y, P.info? e = some j ∧ j.size = s ∧ j.bytes = b ∧ j.zero = some y ∧ y.cells.toList = ez
  len : ti.zero.length = ti.size
  one : ∀ u ∈ ti.zero, u.oneCell' = true
  ezero : ∀ e s b ez, ti.kind = .slice e s b ez → ez.length = s ∧ ∀ u ∈ ez, u.oneCell' = true
  plain : ti.agg = false → ti.size = 1
  pos : 0 < ti.size
  zone : ti.agg = false → ∀ i z, P.info? t = some i → i.zero = some z → z.oneCell' = true
  epos : ∀ e s b ez, ti.kind = .slice e s b ez → 0 < s
  eq : ∀ b, ti.eqk = some b → P.eqGuardType P.depth t = false ∧ ∃ len e j, P.underlying t = some (.array len e) ∧ P.info? e = some j ∧ j.size = 1 ∧ (if b then ∃ k, P.underlying e = some (.int k) else P.underlying e = some .bool)

def eqB (P : Program) (t : TypeId) : Option Bool :=
  if P.eqGuardType P.depth t = true then none else
  match P.underlying t with
  | some (.array _ e) =>
    match P.info? e, P.underlying e with
    | some j, some .bool => if j.size = 1 then some false else none
    | some j, some (.int _) => if j.size = 1 then some true else none
    | _, _ => none
  | _ => none
theorem eqB_ok {P : Program} {t : TypeId} : ∀ b, eqB P t = some b → P.eqGuardType P.depth t = false ∧ ∃ len e j, P.underlying t = some (.array len e) ∧ P.info? e = some j ∧ j.size = 1 ∧ (if b then ∃ k, P.underlying e = some (.int k) else P.underlying e = some .bool) := by
  intro b h
  unfold eqB at h
  split at h
  · cases h
  · rename_i hg
    refine ⟨by simpa using hg, ?_⟩
    split at h
    · rename_i len e hu
      split at h
      · rename_i j hj he
        split at h
        · rename_i hs
          cases h
          exact ⟨len, e, j, hu, hj, hs, by simpa using he⟩
        · cases h
      · rename_i j k hj he
        split at h
        · rename_i hs
          cases h
          exact ⟨len, e, j, hu, hj, hs, by simpa using ⟨k, he⟩⟩
        · cases h
      · cases h
    · cases h

def mkTI (P : Program) (t : TypeId) : Option TI :=
  match P.info? t, P.underlying t with
  | some i, some d =>
    match i.zero with
    | some z =>
      let zero := z.cells.toList
      if zero.length = i.size ∧ zero.all (·.oneCell') = true ∧ (aggB d || i.size == 1) = true ∧ 0 < i.size ∧ (aggB d || z.oneCell') = true then
        match d with
        | .struct fields =>
          if fields.all (fun f => (P.info? f.type).isSome && (P.underlying f.type).isSome) then
            some ⟨i.size, true, zero, .strct (fields.toList.map fun f => (f.offset, ((P.info? f.type).map (·.size)).getD 0, ((P.underlying f.type).map aggB).getD false)), eqB P t⟩
          else none
        | .array len e =>
          match P.info? e, P.underlying e with
          | some j, some u => some ⟨i.size, true, zero, .arr len j.size (aggB u), eqB P t⟩
          | _, _ => none
        | .slice e =>
          match P.info? e with
          | some j => match j.zero with
            | some y => if y.cells.toList.length = j.size ∧ y.cells.toList.all (·.oneCell') = true ∧ 0 < j.size then some ⟨i.size, false, zero, .slice e j.size j.bytes y.cells.toList, eqB P t⟩ else none
            | none => none
          | none => none
        | _ => some ⟨i.size, false, zero, .plain d, eqB P t⟩
      else none
    | none => none
  | _, _ => none

theorem mkTI_ok {P : Program} {t : TypeId} {ti : TI} (h : mkTI P t = some ti) : TIok P t ti := by
  unfold mkTI at h
  split at h
  · rename_i i d hi hd
    split at h
    · rename_i z hz
      simp only at h
      split at h
      · rename_i hc
        obtain ⟨h1, h2, h3, h0, hzo⟩ := hc
        have hone : aggB d = false → ∀ i' z', P.info? t = some i' → i'.zero = some z' → z'.oneCell' = true := fun ha i' z' hi' hz' => by
          rw [hi] at hi'; cases hi'; rw [hz] at hz'; cases hz'; rw [ha] at hzo; simpa using hzo
        have h2' : ∀ u ∈ z.cells.toList, u.oneCell' = true := List.all_eq_true.1 h2
        split at h
        · rename_i fields
          split at h
          · rename_i hf
            cases h
            refine ⟨⟨i, z, _, hi, hz, hd, rfl, rfl, rfl, fields, rfl, by simp, fun f o s g hfs => ?_⟩, h1, h2', fun e s b ez hk => (by cases hk), fun hk => (by cases hk), h0, fun hk => (by cases hk), fun e s b ez hk => (by cases hk), eqB_ok⟩
            simp only [List.getElem?_map, Option.map_eq_some_iff] at hfs
            obtain ⟨fl, h4, h5⟩ := hfs
            simp only [Prod.mk.injEq] at h5
            obtain ⟨rfl, rfl, rfl⟩ := h5
            have h6 : fields[f]? = some fl := by simpa using h4
            have h7 := (Array.all_eq_true_iff_forall_mem.1 hf) fl (Array.mem_of_getElem? h6)
            simp only [Bool.and_eq_true, Option.isSome_iff_exists] at h7
            obtain ⟨⟨j, hj⟩, ⟨e, he⟩⟩ := h7
            exact ⟨fl, h6, rfl, ⟨j, hj, by simp [hj]⟩, e, he, by simp [he]⟩
          · cases h
        · rename_i len e
          split at h
          · rename_i j u hj hu
            cases h
            exact ⟨⟨i, z, _, hi, hz, hd, rfl, rfl, rfl, e, rfl, ⟨j, hj, rfl⟩, u, hu, rfl⟩, h1, h2', fun e s b ez hk => (by cases hk), fun hk => (by cases hk), h0, fun hk => (by cases hk), fun e s b ez hk => (by cases hk), eqB_ok⟩
          · cases h
        · rename_i e
          split at h
          · rename_i j hj
            split at h
            · rename_i y hy
              split at h
              · rename_i hc2
                cases h
                refine ⟨⟨i, z, _, hi, hz, hd, rfl, rfl, rfl, rfl, j, y, hj, rfl, rfl, hy, rfl⟩, h1, h2', fun e s b ez hk => ?_, fun _ => by simpa [aggB] using h3, h0, fun _ => hone rfl, fun e s b ez hk => (by cases hk; exact hc2.2.2), eqB_ok⟩
                cases hk
                exact ⟨hc2.1, List.all_eq_true.1 hc2.2.1⟩
              · cases h
            · cases h
          · cases h
        · cases h
          rename_i hs ha hsl
          have ha' : aggB d = false := by cases d <;> first | rfl | exact absurd rfl (hs _) | exact absurd rfl (ha _ _)
          refine ⟨⟨i, z, _, hi, hz, hd, rfl, rfl, ha', rfl⟩, h1, h2', fun e s b ez hk => (by cases hk), fun _ => ?_, h0, fun _ => hone ha', fun e s b ez hk => (by cases hk), eqB_ok⟩
          rw [ha'] at h3
          simpa using h3
      · cases h
    · cases h
  · cases h

abbrev TTab := TypeId → Option TI
def TTok (P : Program) (TT : TTab) : Prop := ∀ t ti, TT t = some ti → TIok P t ti

section runs
variable {P : Program} {w : World} {t : TypeId} {ti : TI}
theorem TIok.run_size (h : TIok P t ti) : (sizeOf t).run P w = .ok ti.size w := by
  obtain ⟨i, z, d, h1, h2, h3, h4, h5, h6, _⟩ := h.i
  simp [sizeOf, typeInfo, h1, h5]
theorem TIok.run_agg (h : TIok P t ti) : (isAgg t).run P w = .ok ti.agg w := by
  obtain ⟨i, z, d, h1, h2, h3, h4, h5, h6, _⟩ := h.i
  unfold isAgg
  rw [Sem.run_bind, run_underlying h3 w, ← h6]
  cases d <;> rfl
theorem TIok.run_zero (h : TIok P t ti) : ∃ z, (zeroValue t).run P w = .ok z w ∧ z.cells.toList = ti.zero := by
  obtain ⟨i, z, d, h1, h2, h3, h4, h5, h6, _⟩ := h.i
  exact ⟨z, by simp [zeroValue, typeInfo, h1, h2], h4⟩
theorem TIok.info_size (h : TIok P t ti) : (P.info? t).map (·.size) = some ti.size := by
  obtain ⟨i, z, d, h1, h2, h3, h4, h5, h6, _⟩ := h.i
  simp [h1, h5]
theorem size_of_info {e : TypeId} {j : TypeInfo} {s : Nat} (h : P.info? e = some j) (hs : j.size = s) : (sizeOf e).run P w = .ok s w := by simp [sizeOf, typeInfo, h, hs]
theorem agg_of_under {e : TypeId} {d : TypeDesc} {g : Bool} (h : P.underlying e = some d) (hg : aggB d = g) : (isAgg e).run P w = .ok g w := by
  unfold isAgg
  rw [Sem.run_bind, run_underlying h w, ← hg]
  cases d <;> rfl
end runs

/-! ### A step of memory -/
section step
variable {B : Base} {G G' : Gh} {H H' : Nat → Option AObj} {w w' : World}

theorem RH.blk_lt (h : RH B G H w) {b o : Nat} {u : Value} (hs : G.S b o = some u) : b < w.heap.size := World.block_lt_of_cell? _ _ (h.st _ _ _ hs)
theorem Robj.at_ {k : Nat} {o : AObj} (h : Robj G w k o) {b : Nat} {x : Nat × Nat × Nat} (hl : G.loc k = some (some b, x)) : ∃ ob : Obj, ((∃ vs, ob = .cells vs o.t (0, 0)) ∨ ∃ es c, ob = .map es c) ∧ w.heap[b]? = some ob := by
  by_cases hz : o.sz = 0
  · obtain ⟨b', base, cap, h1, es, c, h2, _⟩ := h.map hz
    rw [hl] at h1
    cases h1
    exact ⟨_, .inr ⟨es, c, rfl⟩, h2⟩
  obtain ⟨blk, base, cap, h1, _, _, _, h5⟩ := h.cells (by omega)
  rw [hl] at h1
  cases h1
  obtain ⟨vs, h6, _⟩ := h5
  exact ⟨_, .inl ⟨vs, rfl⟩, h6⟩
theorem Robj.lt {k : Nat} {o : AObj} (h : Robj G w k o) {b : Nat} {x : Nat × Nat × Nat} (hl : G.loc k = some (some b, x)) : b < w.heap.size := by
  obtain ⟨o', _, h6⟩ := h.at_ hl
  exact (Array.getElem?_eq_some_iff.1 h6).1

theorem RH.step (h : RH B G H w) (hos : w'.os = w.os) (htape : w'.tape = w.tape) (hout : w'.output = w.output) (hsz : w.heap.size ≤ w'.heap.size) (hg : G.le G') (hS : G'.S = G.S) (b0 id0 : Nat)
    (hother : ∀ b, b ≠ b0 → b < w.heap.size → w'.heap[b]? = w.heap[b]?)
    (hb0 : w.heap.size ≤ b0 ∨ ∃ k o x, H k = some o ∧ G.loc k = some (some b0, x))
    (hH : ∀ k o, H' k = some o → (k = id0 ∧ Robj G' w' k o ∧ ∀ b x, G'.loc k = some (some b, x) → b = b0) ∨ (k ≠ id0 ∧ H k = some o ∧ ∀ b x, G.loc k = some (some b, x) → b ≠ b0)) :
    RH B G' H' w' := by
  have hown : B.w0.heap.size ≤ b0 ∨ b0 ∈ B.bs := by
    rcases hb0 with hb0 | ⟨k, o, x, h1, h2⟩
    · exact .inl (Nat.le_trans h.size hb0)
    · exact h.own k o h1 _ _ _ _ h2
  have hne : ∀ b o u, G.S b o = some u → b ≠ b0 := by
    intro b o u hs e
    subst e
    rcases hb0 with hb0 | ⟨k, ob, x, h1, h2⟩
    · have := h.blk_lt hs; omega
    · rw [h.sep k ob h1 _ _ h2] at hs; cases hs
  have hnone : ∀ p, G.S b0 p = none := by
    intro p
    cases hs : G.S b0 p with
    | none => rfl
    | some u => exact absurd rfl (hne _ _ _ hs)
  refine ⟨hos.trans h.os, htape.trans h.tape, hout.trans h.output, Nat.le_trans h.size hsz, fun b hb hn => ?_, fun k o hk => ?_, fun k o hk b base cap sz hl => ?_, fun k k' o o' hk hk' b x y hl hl' => ?_, fun b o u hs => ?_, fun k o hk b x hl p => ?_, fun b o u hs => h.fresh b o u (by rw [← hS]; exact hs), fun b o u hs => by rw [hS]; exact h.keep b o u hs, fun k l hk => hg.loc _ _ (h.fix k l hk), fun r hr => ?_, h.base⟩
  · rw [hother b (fun e => by subst e; rcases hown with h1 | h1; omega; exact hn h1) (Nat.lt_of_lt_of_le hb h.size)]
    exact h.old b hb hn
  · rcases hH k o hk with ⟨_, h1, _⟩ | ⟨_, h1, h2⟩
    · exact h1
    · exact (h.obj k o h1).mono hg fun b base cap sz hl => hother b (h2 _ _ hl) ((h.obj k o h1).lt hl)
  · rcases hH k o hk with ⟨_, h1, h2⟩ | ⟨_, h1, h2⟩
    · rw [h2 _ _ hl]; exact hown
    · obtain ⟨blk, ba, ca, h3, _⟩ := h.obj k o h1
      have := hg.loc _ _ h3
      rw [hl] at this
      cases this
      exact h.own k o h1 _ _ _ _ h3
  · have key : ∀ k o, H' k = some o → ∀ b x, G'.loc k = some (some b, x) → (k = id0 ∧ b = b0) ∨ (k ≠ id0 ∧ b ≠ b0 ∧ H k = some o ∧ G.loc k = some (some b, x)) := by
      intro k o hk b x hl
      rcases hH k o hk with ⟨h0, h1, h2⟩ | ⟨h0, h1, h2⟩
      · exact .inl ⟨h0, h2 _ _ hl⟩
      · obtain ⟨blk, ba, ca, h3, _⟩ := h.obj k o h1
        have h4 := hg.loc _ _ h3
        rw [hl] at h4
        cases h4
        exact .inr ⟨h0, h2 _ _ h3, h1, h3⟩
    rcases key k o hk b x hl with ⟨e1, e2⟩ | ⟨e1, e2, e3, e4⟩ <;> rcases key k' o' hk' b y hl' with ⟨f1, f2⟩ | ⟨f1, f2, f3, f4⟩
    · rw [e1, f1]
    · exact absurd e2 f2
    · exact absurd f2 e2
    · exact h.inj k k' o o' e3 f3 b x y e4 f4
  · rw [hS] at hs
    have h1 := h.st b o u hs
    have h2 := hne b o u hs
    have : w'.cell? ⟨b, o, none⟩ = w.cell? ⟨b, o, none⟩ := World.cell?_of_block (hother b h2 (h.blk_lt hs))
    rw [this]; exact h1
  · rw [hS]
    rcases hH k o hk with ⟨_, h1, h2⟩ | ⟨_, h1, h2⟩
    · rw [h2 _ _ hl]; exact hnone p
    · obtain ⟨blk, ba, ca, h3, _⟩ := h.obj k o h1
      have := hg.loc _ _ h3
      rw [hl] at this
      cases this
      exact h.sep k o h1 _ _ h3 p
  · obtain ⟨h1, h2⟩ := h.pin r hr
    refine ⟨?_, h2⟩
    rw [hother r (fun e => ?_) (Array.getElem?_eq_some_iff.1 h1).1]
    · exact h1
    · subst e
      rcases hb0 with hb0 | ⟨k, o, x, h3, h4⟩
      · have := (Array.getElem?_eq_some_iff.1 h1).1; omega
      · obtain ⟨ob, h6, h7⟩ := (h.obj k o h3).at_ h4
        rw [h1] at h7; cases h7
        rcases h6 with ⟨_, h6⟩ | ⟨_, _, h6⟩ <;> cases h6

def Gh.add (G : Gh) (id : Nat) (l : Option Nat × Nat × Nat × Nat) : Gh := { G with loc := fun k => if k = id then some l else G.loc k }
theorem Gh.add_le {id : Nat} {l : Option Nat × Nat × Nat × Nat} (h : G.loc id = none) : G.le (G.add id l) :=
  ⟨fun _ _ _ h => h, fun k m hk => by
    show (if k = id then some l else G.loc k) = some m
    rw [if_neg (fun e => by rw [e, h] at hk; cases hk)]; exact hk⟩
theorem Gh.add_self {id : Nat} {l : Option Nat × Nat × Nat × Nat} : (G.add id l).loc id = some l := if_pos rfl
end step

/-! ### Operations -/
abbrev Res := AV × List (Nat × Option AObj)
def CoreOk (P : Program) (o : Oper) (σ : AS) (r : Res) : Prop :=
  ∀ B G w a, R B G σ w a → ∀ (K : Act → World → Prop) (Q : Exit → Act → World → Prop), (∀ G' w' x, G.le G' → R B G' (σ.upd r.2) w' a → Rv G' r.1 x → K (a.put o.dst x) w') → o.wp P a w K Q

theorem upd_nil (σ : AS) : σ.upd [] = σ := rfl
theorem CoreOk.pure {P : Program} {o : Oper} {σ : AS} {av : AV} (h : ∀ B G w a, R B G σ w a → ∃ x, (execOp a.eval o).run P w = .ok (.value x) w ∧ Rv G av x) : CoreOk P o σ (av, []) := by
  intro B G w a hr K Q hK
  obtain ⟨x, h1, h2⟩ := h B G w a hr
  unfold Oper.wp
  rw [h1]
  exact hK G w x (Gh.le.refl G) hr h2
end Go.Proofs.YtafikekndefjcaaDoor
/- Am3: An abstract machine for the text, part three: what an operation yields; operations that only read; plain lemmas over any program; no condition. -/
namespace Go.Proofs.YtafikekndefjcaaDoor
set_option linter.unusedVariables false
set_option linter.unusedSimpArgs false
set_option linter.unusedSectionVars false
open Go.RowKit

/-! ### Values -/
section vals
variable {G : Gh}
theorem Rv.v_eq {x u : Value} (h : Rv G (.v x) u) : u = x := by cases h; rfl
def AV.cell : AV → Bool
  | .v x => x.oneCell'
  | .sl _ _ => true
  | .pt _ => true
  | .ref _ _ _ => true
  | .ptr _ _ _ => true
  | .clo _ _ => true
  | .bnd _ _ => true
  | .mp _ => true
  | _ => false
def AV.cells : AV → List AV
  | .agg cs => cs
  | a => [a]
def AV.flat : AV → Bool
  | .agg _ => true
  | a => a.cell
theorem Rv.one {a : AV} {u : Value} (h : Rv G a u) (hc : a.cell = true) : u.oneCell' = true := by
  cases h <;> first | rfl | exact hc | (simp [AV.cell] at hc)
theorem Rv.stored {a : AV} {u : Value} (h : Rv G a u) (hc : a.flat = true) : u.cells.size = a.cells.length ∧ (∀ x ∈ u.cells, x.oneCell' = true) ∧ ∀ i, i < a.cells.length → Rv G (a.cells.getD i .any) (u.cells.getD i undef) := by
  by_cases hg : ∃ cs, a = .agg cs
  · obtain ⟨cs, rfl⟩ := hg
    cases h with
    | agg _ us hl h1 h => exact ⟨by simpa [Value.cells, AV.cells] using hl, by simpa [Value.cells] using h1, by simpa [Value.cells, AV.cells] using h⟩
  · have hcell : a.cell = true := by cases a <;> first | exact hc | exact absurd ⟨_, rfl⟩ hg
    have h1 := h.one hcell
    have hu : u.cells = #[u] := by cases u <;> first | rfl | (simp [Value.oneCell'] at h1)
    have ha : a.cells = [a] := by cases a <;> first | rfl | exact absurd ⟨_, rfl⟩ hg
    rw [hu, ha]
    refine ⟨rfl, by simpa using h1, fun i hi => ?_⟩
    simp only [List.length_singleton] at hi
    obtain rfl : i = 0 := by omega
    simpa using h
theorem Rv.agg' {cs : List AV} {arr : Array Value} (hl : arr.size = cs.length) (h1 : ∀ x ∈ arr, x.oneCell' = true) (h : ∀ i, i < cs.length → Rv G (cs.getD i .any) (arr.getD i undef)) : Rv G (.agg cs) (.agg arr) := by
  have := Rv.agg (G := G) cs arr.toList (by simpa using hl) (by simpa using h1) (by simpa using h)
  simpa using this
theorem Rv.agg_inv {cs : List AV} {u : Value} (h : Rv G (.agg cs) u) : ∃ arr : Array Value, u = .agg arr ∧ arr.size = cs.length ∧ (∀ x ∈ arr, x.oneCell' = true) ∧ ∀ i, i < cs.length → Rv G (cs.getD i .any) (arr.getD i undef) := by
  cases h with
  | agg _ us hl h1 h => exact ⟨us.toArray, rfl, by simpa using hl, by simpa using h1, by simpa using h⟩
end vals

/-! ### Numbers -/
def sc2 (d : Option TypeDesc) (op : BinOp) (x y : Value) : Option Value :=
  match x, y with
  | .int k a, .int yk b =>
    match op with
    | .shl => if b < 0 then none else some (.int k (k.wrap (a * 2 ^ (min b.toNat k.bits))))
    | .shr => if b < 0 then none else some (.int k (a.fdiv (2 ^ (min b.toNat k.bits))))
    | .add => if k = yk then some (.int k (k.wrap (a + b))) else none
    | .sub => if k = yk then some (.int k (k.wrap (a - b))) else none
    | .mul => if k = yk then some (.int k (k.wrap (a * b))) else none
    | .quo => if k = yk ∧ b ≠ 0 then some (.int k (k.wrap (a.tdiv b))) else none
    | .rem => if k = yk ∧ b ≠ 0 then some (.int k (a.tmod b)) else none
    | .and => if k = yk then some (.int k (k.wrap (BitVec.ofInt k.bits a &&& BitVec.ofInt k.bits b).toNat)) else none
    | .or => if k = yk then some (.int k (k.wrap (BitVec.ofInt k.bits a ||| BitVec.ofInt k.bits b).toNat)) else none
    | .xor => if k = yk then some (.int k (k.wrap (BitVec.ofInt k.bits a ^^^ BitVec.ofInt k.bits b).toNat)) else none
    | .andNot => if k = yk then some (.int k (k.wrap (BitVec.ofInt k.bits a &&& ~~~ BitVec.ofInt k.bits b).toNat)) else none
    | .eql => if k = yk then some (.bool (a == b)) else none
    | .neq => if k = yk then some (.bool (a != b)) else none
    | .lss => if k = yk then some (.bool (decide (a < b))) else none
    | .leq => if k = yk then some (.bool (decide (a ≤ b))) else none
    | .gtr => if k = yk then some (.bool (decide (a > b))) else none
    | .geq => if k = yk then some (.bool (decide (a ≥ b))) else none
  | .bool a, .bool b =>
    match op, d with
    | .eql, some .bool => some (.bool (a == b))
    | .neq, some .bool => some (.bool (!(a == b)))
    | _, _ => none
  | .string a, .string b =>
    match op, d with
    | .eql, some .string => some (.bool (a.data.toList == b.data.toList))
    | .neq, some .string => some (.bool (!(a.data.toList == b.data.toList)))
    | _, _ => none
  | _, _ => none

theorem run_equalIn_bool {P : Program} (d : Nat) {t : TypeId} (h : P.underlying t = some .bool) (a b : Bool) (w : World) : (Op.equalIn (d + 1) t (.bool a) (.bool b)).run P w = .ok (a == b) w := by
  simp only [Op.equalIn, Sem.run_bind, run_underlying h, Result.andThen_ok, Sem.run_pure]
theorem run_equal_bool {P : Program} {t : TypeId} (h : P.underlying t = some .bool) (a b : Bool) (w : World) : (Op.equal t (.bool a) (.bool b)).run P w = .ok (a == b) w := run_equalIn_bool 9999 h a b w
theorem sc2_ok {P : Program} {op : BinOp} {t : TypeId} {x y : Operand} {u v r : Value} {d : Option TypeDesc} (hd : ∀ e, d = some e → P.underlying t = some e) (h : sc2 d op u v = some r) (w : World) :
    (do eqGuard op t x y u v; binOp op t u v : Sem Value).run P w = .ok r w := by
  unfold sc2 at h
  split at h
  · rename_i k a yk b
    have hgd : eqGuard op t x y (.int k a) (.int yk b) = Pure.pure () := by cases op <;> rfl
    rw [hgd]
    cases op <;> simp only at h <;> split at h <;> first
      | (cases h; done)
      | (
         rename_i hc; first | (obtain ⟨rfl, hc⟩ := hc) | subst hc | skip
         cases h
         simp [binOp, Op.shift, Op.intArith, Op.intDiv, Op.intBits, Op.intCmp, Sem.run_bind, *])
  · rename_i a b
    have hgd : eqGuard op t x y (.bool a) (.bool b) = Pure.pure () := by cases op <;> rfl
    rw [hgd]
    split at h
    · cases h
      have := hd _ rfl
      simp only [binOp, Sem.run_bind, run_equal_bool this, Result.andThen_ok, Sem.run_pure]
    · cases h
      have := hd _ rfl
      simp only [binOp, Sem.run_bind, run_equal_bool this, Result.andThen_ok, Sem.run_pure]
    · cases h
  · rename_i a b
    have hgd : eqGuard op t x y (.string a) (.string b) = Pure.pure () := by cases op <;> rfl
    rw [hgd]
    split at h
    · cases h
      have := hd _ rfl
      simp [binOp, Op.stringOp, ByteArray.toList_eq]
    · cases h
      have := hd _ rfl
      simp [binOp, Op.stringOp, ByteArray.toList_eq]
    · cases h
  · cases h
end Go.Proofs.YtafikekndefjcaaDoor
/- Am4: An abstract machine for the text, part four: operations that read; plain lemmas over any program; no condition. -/
namespace Go.Proofs.YtafikekndefjcaaDoor
set_option linter.unusedVariables false
set_option linter.unusedSimpArgs false
set_option linter.unusedSectionVars false
open Go.RowKit

section reads
variable {P : Program} {σ : AS} {o : Oper} {TT : TTab}

theorem ok_move {x : Operand} {av : AV} (ho : o.op = .move x ∨ o.op = .assign x) (hx : σ.ev x = some av) : CoreOk P o σ (av, []) :=
  CoreOk.pure fun B G w a hr => ⟨a.eval x, by unfold execOp; rcases ho with ho | ho <;> rw [ho] <;> rfl, hr.ev hx⟩
theorem ok_pick {c x y : Operand} {t : Bool} {av : AV} (ho : o.op = .pick c x y) (hc : σ.ev c = some (.v (.bool t))) (hx : σ.ev (if t then x else y) = some av) : CoreOk P o σ (av, []) :=
  CoreOk.pure fun B G w a hr => by
    refine ⟨a.eval (if t then x else y), ?_, hr.ev hx⟩
    have h1 := (hr.ev hc).v_eq
    unfold execOp
    rw [ho]
    simp only [h1, asBool]
    cases t <;> rfl
theorem ok_bin {op : BinOp} {t yt : TypeId} {x y : Operand} {u v r : Value} {d : Option TypeDesc} (ho : o.op = .binOp op t x y yt) (hx : σ.ev x = some (.v u)) (hy : σ.ev y = some (.v v)) (hd : ∀ e, d = some e → P.underlying t = some e) (h : sc2 d op u v = some r) :
    CoreOk P o σ (.v r, []) :=
  CoreOk.pure fun B G w a hr => by
    refine ⟨r, ?_, .v _⟩
    have h1 := (hr.ev hx).v_eq
    have h2 := (hr.ev hy).v_eq
    unfold execOp
    rw [ho]
    simp only [h1, h2]
    have := sc2_ok (x := x) (y := y) hd h w
    rw [Sem.run_bind, this]; rfl
def sc1 (op : UnOp) (x : Value) : Option Value :=
  match op, x with
  | .neg, .int k n => some (.int k (k.wrap (0 - n)))
  | .not, .bool b => some (.bool !b)
  | .xor, .int k n => some (.int k (k.wrap (BitVec.ofInt k.bits (if k.signed then -1 else k.max) ^^^ BitVec.ofInt k.bits n).toNat))
  | _, _ => none
theorem ok_un {op : UnOp} {t : TypeId} {x : Operand} {u r : Value} (ho : o.op = .unOp op t x) (hx : σ.ev x = some (.v u)) (h : sc1 op u = some r) : CoreOk P o σ (.v r, []) :=
  CoreOk.pure fun B G w a hr => by
    refine ⟨r, ?_, .v _⟩
    have h1 := (hr.ev hx).v_eq
    unfold execOp
    rw [ho]
    simp only [h1]
    unfold sc1 at h
    split at h <;> first | (cases h; rfl) | (cases h)
theorem ok_conv {s t : TypeId} {k : IntKind} {x : Operand} {k0 : IntKind} {n : Int} {d : TypeDesc} (ho : o.op = .convert s t x) (hx : σ.ev x = some (.v (.int k0 n))) (hs : P.underlying s = some d) (ht : P.underlying t = some (.int k)) : CoreOk P o σ (.v (.int k (k.wrap n)), []) :=
  CoreOk.pure fun B G w a hr => by
    refine ⟨_, ?_, .v _⟩
    have h1 := (hr.ev hx).v_eq
    unfold execOp
    rw [ho]
    simp [h1, convert, run_underlying hs, run_underlying ht, Conv.intToInt]
theorem ok_extract {x : Operand} {i : Nat} {cs : List AV} {av : AV} (ho : o.op = .extract x i) (hx : σ.ev x = some (.tup cs)) (hi : cs[i]? = some av) : CoreOk P o σ (av, []) :=
  CoreOk.pure fun B G w a hr => by
    have h1 := hr.ev hx
    obtain ⟨hlt, rfl⟩ := List.getElem?_eq_some_iff.1 hi
    generalize hv : a.eval x = v at h1
    cases h1 with
    | tup _ us hl h =>
      refine ⟨us.getD i undef, ?_, by simpa [List.getD, hlt] using h i hlt⟩
      unfold execOp
      rw [ho]
      simp [hv, Instr.extract, List.getD, show i < us.length by omega]
theorem ok_fieldv {t : TypeId} {x : Operand} {i off sz : Nat} {g : Bool} {cs : List AV} {ti : TI} {fs : List (Nat × Nat × Bool)} (hTI : TIok P t ti) (hk : ti.kind = .strct fs) (hf : fs[i]? = some (off, sz, g))
    (ho : o.op = .field t x i) (hx : σ.ev x = some (.agg cs)) (hle : off + sz ≤ cs.length) (h1 : g = false → sz = 1) : CoreOk P o σ (if g then .agg ((cs.drop off).take sz) else cs.getD off .any, []) :=
  CoreOk.pure fun B G w a hr => by
    obtain ⟨arr, hv, hl, hone, h⟩ := (hr.ev hx).agg_inv
    obtain ⟨_, z, d, _, _, h3, _, _, _, hkk⟩ := hTI.i
    rw [hk] at hkk
    obtain ⟨fields, rfl, _, hfl⟩ := hkk
    obtain ⟨fl, hff, hoff, ⟨j, hj1, hj2⟩, e, he1, he2⟩ := hfl i off sz g hf
    subst hoff
    have hsz : ∀ w, (sizeOf fl.type).run P w = .ok sz w := fun w => size_of_info hj1 hj2
    have hag : ∀ w, (isAgg fl.type).run P w = .ok g w := fun w => agg_of_under he1 he2
    cases g with
    | true =>
      refine ⟨.agg (arr.extract fl.offset (fl.offset + sz)), ?_, ?_⟩
      · unfold execOp
        rw [ho]
        simp [hv, Instr.field, run_underlying h3, hff, asAgg, part, hag, hsz]
      · rw [if_pos rfl]
        refine Rv.agg' (by simp; omega) (fun u hu => hone u ?_) (fun k hk => ?_)
        · rw [Array.mem_iff_getElem?] at hu ⊢
          obtain ⟨k, hk⟩ := hu
          rw [Array.getElem?_extract] at hk
          split at hk
          · exact ⟨_, hk⟩
          · cases hk
        · have hk' : k < sz := by simp at hk; omega
          have := h (fl.offset + k) (by omega)
          simpa [List.getD, Array.getElem?_extract, hk', show fl.offset + k < cs.length by omega, show fl.offset + k < arr.size by omega, show k < min (fl.offset + sz) arr.size - fl.offset by omega] using this
    | false =>
      have hs1 := h1 rfl
      refine ⟨arr.getD fl.offset undef, ?_, by rw [if_neg (by simp)]; exact h _ (by omega)⟩
      unfold execOp
      rw [ho]
      simp [hv, Instr.field, run_underlying h3, hff, asAgg, part, hag, show fl.offset < arr.size by omega]
end reads
end Go.Proofs.YtafikekndefjcaaDoor
/- Am5: An abstract machine for the text, part five: addresses and loads; plain lemmas over any program; no condition. -/
namespace Go.Proofs.YtafikekndefjcaaDoor
set_option linter.unusedVariables false
set_option linter.unusedSimpArgs false
set_option linter.unusedSectionVars false
open Go.RowKit

section reads
variable {P : Program} {σ : AS} {o : Oper} {TT : TTab}

theorem R.cellsOf {B : Base} {G : Gh} {w : World} {a : Act} (hr : R B G σ w a) {k e j : Nat} {ob : AObj} (ho : lk σ.objs k = some ob) {b base cap sz : Nat} (hl : G.loc k = some (some b, base, cap, sz)) (he : e < ob.xs.length) (hj : j < ob.sz) :
    sz = ob.sz ∧ ∃ u, w.cell? ⟨b, base + (e * ob.sz + j), none⟩ = some u ∧ w.frozen? ⟨b, base + (e * ob.sz + j), none⟩ = false ∧ u.oneCell' = true ∧ Rv G ((ob.xs.getD e []).getD j .any) u := by
  obtain ⟨blk, ba, ca, h1, h2, h3, h4, h5⟩ := (hr.heap.obj k ob ho).cells (by omega)
  rw [hl] at h1
  cases h1
  obtain ⟨vs, h6, h7, h8⟩ := h5
  obtain ⟨h9, h10⟩ := h8 e j he hj
  have hlt : base + (e * ob.sz + j) < vs.size := by
    have : (e + 1) * ob.sz ≤ cap * ob.sz := Nat.mul_le_mul_right _ (by omega)
    rw [Nat.add_mul] at this; omega
  refine ⟨rfl, vs[base + (e * ob.sz + j)], by simp [World.cell?, h6, hlt], by simp [World.frozen?, h6], ?_, ?_⟩
  · simpa [Array.getD, hlt] using h9
  · simpa [Array.getD, hlt] using h10

theorem ptr_inv {G : Gh} {k e j : Nat} {u : Value} (h : Rv G (.ptr k e j) u) : ∃ b base cap sz, G.loc k = some (some b, base, cap, sz) ∧ u = .pointer (some ⟨b, base + (e * sz + j), none⟩) := by
  cases h with
  | ptr _ _ _ b base cap sz hk => exact ⟨b, base, cap, sz, hk, rfl⟩
theorem pt_inv {G : Gh} {cs : List AV} {u : Value} (h : Rv G (.pt cs) u) : ∃ b o, u = .pointer (some ⟨b, o, none⟩) ∧ ∃ us : Nat → Value, (∀ j, j < cs.length → G.S b (o + j) = some (us j)) ∧ (∀ j, j < cs.length → (us j).oneCell' = true) ∧ ∀ j, j < cs.length → Rv G (cs.getD j .any) (us j) := by
  cases h with
  | pt _ b o us hS h1 h => exact ⟨b, o, rfl, us, hS, h1, h⟩

def ldA (ti : TI) (cs : List AV) : AV := if ti.agg then .agg (cs.take ti.size) else cs.getD 0 .any
theorem run_loadCellsAt (P : Program) (w : World) (b o n : Nat) (f : Nat → Value) (h : ∀ j, j < n → w.cell? ⟨b, o + j, none⟩ = some (f j)) : (loadCells ⟨b, o, none⟩ n).run P w = .ok ((List.range n).map f).toArray w :=
  run_loadCells w ⟨b, o, none⟩ n f (fun j hj => by rw [Addr.add_lit]; exact h j hj)
theorem run_loadVarAt {t : TypeId} {ti : TI} (hT : TIok P t ti) {G : Gh} {w : World} {b o : Nat} {cs : List AV} (hc : ∀ j, j < ti.size → ∃ u, w.cell? ⟨b, o + j, none⟩ = some u ∧ u.oneCell' = true ∧ Rv G (cs.getD j .any) u) :
    ∃ u, (loadVar t ⟨b, o, none⟩).run P w = .ok u w ∧ (cs.length < ti.size ∨ Rv G (ldA ti cs) u) := by
  have hcs : ∀ j, ∃ u, j < ti.size → w.cell? ⟨b, o + j, none⟩ = some u ∧ u.oneCell' = true ∧ Rv G (cs.getD j .any) u := fun j => by
    by_cases hj : j < ti.size
    · obtain ⟨u, hu⟩ := hc j hj; exact ⟨u, fun _ => hu⟩
    · exact ⟨undef, fun h => absurd h hj⟩
  obtain ⟨f, hf⟩ := Classical.axiomOfChoice hcs
  unfold ldA
  cases hg : ti.agg with
  | true =>
    refine ⟨.agg ((List.range ti.size).map f).toArray, ?_, ?_⟩
    · simp [loadVar, hT.run_agg, hg, hT.run_size, run_loadCellsAt P w b o ti.size f (fun j hj => (hf j hj).1)]
    · by_cases hl : cs.length < ti.size
      · exact .inl hl
      · right
        rw [if_pos rfl]
        refine .agg _ _ (by simp; omega) (fun u hu => ?_) (fun i hi => ?_)
        · simp only [List.mem_map, List.mem_range] at hu
          obtain ⟨j, hj, rfl⟩ := hu
          exact (hf j hj).2.1
        · have hi' : i < ti.size := by simp at hi; omega
          have := (hf i hi').2.2
          simpa [List.getD, List.getElem?_take, hi'] using this
  | false =>
    have hs := hT.plain hg
    refine ⟨f 0, ?_, .inr ?_⟩
    · have := (hf 0 (by omega)).1
      simp only [Nat.add_zero] at this
      simp [loadVar, hT.run_agg, hg, run_load, this]
    · rw [if_neg (by simp)]; exact (hf 0 (by omega)).2.2

theorem ok_load_ptr {t : TypeId} {x : Operand} {ti : TI} {k e j : Nat} {ob : AObj} (hT : TIok P t ti) (ho : o.op = .load t x) (hx : σ.ev x = some (.ptr k e j)) (hk : lk σ.objs k = some ob) (he : e < ob.xs.length) (hj : j + ti.size ≤ ob.sz) :
    CoreOk P o σ (ldA ti ((ob.xs.getD e []).drop j), []) :=
  CoreOk.pure fun B G w a hr => by
    obtain ⟨b, base, cap, sz, hl, hv⟩ := ptr_inv (hr.ev hx)
    obtain ⟨blk, ba, ca, h1, h2, h3, h4, h5⟩ := (hr.heap.obj k ob hk).cells (by have := hT.pos; omega)
    have hlen := h4 e he
    have hsz : sz = ob.sz := by rw [hl] at h1; cases h1; rfl
    subst hsz
    obtain ⟨u, h6, h7⟩ := run_loadVarAt (P := P) hT (G := G) (w := w) (b := b) (o := base + (e * ob.sz + j)) (cs := (ob.xs.getD e []).drop j) (fun i hi => by
      obtain ⟨_, u, g1, _, g2, g3⟩ := hr.cellsOf hk hl he (j := j + i) (by omega)
      exact ⟨u, by rw [← g1]; congr 2; omega, g2, by simpa [List.getD, List.getElem?_drop] using g3⟩)
    refine ⟨u, ?_, h7.resolve_left (by rw [List.length_drop, hlen]; omega)⟩
    unfold execOp
    rw [ho]
    simp [hv, Instr.loadAt, Instr.sureAddr, h6]
theorem ok_load_pt {t : TypeId} {x : Operand} {ti : TI} {cs : List AV} (hT : TIok P t ti) (ho : o.op = .load t x) (hx : σ.ev x = some (.pt cs)) (hj : ti.size ≤ cs.length) : CoreOk P o σ (ldA ti cs, []) :=
  CoreOk.pure fun B G w a hr => by
    obtain ⟨b, p, hv, us, h1, h2, h3⟩ := pt_inv (hr.ev hx)
    obtain ⟨u, h6, h7⟩ := run_loadVarAt (P := P) hT (G := G) (w := w) (b := b) (o := p) (cs := cs) (fun i hi => ⟨us i, hr.heap.st _ _ _ (h1 i (by omega)), h2 i (by omega), h3 i (by omega)⟩)
    refine ⟨u, ?_, h7.resolve_left (by omega)⟩
    unfold execOp
    rw [ho]
    simp [hv, Instr.loadAt, Instr.sureAddr, h6]

theorem ok_faddr_ptr {t : TypeId} {x : Operand} {i off sz : Nat} {g : Bool} {ti : TI} {fs : List (Nat × Nat × Bool)} {k e j : Nat} (hT : TIok P t ti) (hk : ti.kind = .strct fs) (hf : fs[i]? = some (off, sz, g)) (h0 : sz ≠ 0)
    (ho : o.op = .fieldAddr t x i) (hx : σ.ev x = some (.ptr k e j)) : CoreOk P o σ (.ptr k e (j + off), []) :=
  CoreOk.pure fun B G w a hr => by
    obtain ⟨b, base, cap, sz', hl, hv⟩ := ptr_inv (hr.ev hx)
    obtain ⟨_, z, d, _, _, h3, _, _, _, hkk⟩ := hT.i
    rw [hk] at hkk
    obtain ⟨fields, rfl, _, hfl⟩ := hkk
    obtain ⟨fl, hff, hoff, ⟨jj, hj1, hj2⟩, _⟩ := hfl i off sz g hf
    subst hoff
    have hsz : ∀ w, (sizeOf fl.type).run P w = .ok sz w := fun w => size_of_info hj1 hj2
    refine ⟨.pointer (some ⟨b, base + (e * sz' + (j + fl.offset)), none⟩), ?_, .ptr k e (j + fl.offset) b base cap sz' hl⟩
    unfold execOp
    rw [ho]
    simp [hv, Instr.fieldAt, run_underlying h3, hff, Instr.sureAddr, fieldPlace, hsz, h0, Addr.add_lit]
    try omega
theorem ok_faddr_pt {t : TypeId} {x : Operand} {i off sz : Nat} {g : Bool} {ti : TI} {fs : List (Nat × Nat × Bool)} {cs : List AV} (hT : TIok P t ti) (hk : ti.kind = .strct fs) (hf : fs[i]? = some (off, sz, g)) (h0 : sz ≠ 0)
    (ho : o.op = .fieldAddr t x i) (hx : σ.ev x = some (.pt cs)) : CoreOk P o σ (.pt (cs.drop off), []) :=
  CoreOk.pure fun B G w a hr => by
    obtain ⟨b, p, hv, us, h1, h2, h4⟩ := pt_inv (hr.ev hx)
    obtain ⟨_, z, d, _, _, h3, _, _, _, hkk⟩ := hT.i
    rw [hk] at hkk
    obtain ⟨fields, rfl, _, hfl⟩ := hkk
    obtain ⟨fl, hff, hoff, ⟨jj, hj1, hj2⟩, _⟩ := hfl i off sz g hf
    subst hoff
    have hsz : ∀ w, (sizeOf fl.type).run P w = .ok sz w := fun w => size_of_info hj1 hj2
    refine ⟨.pointer (some ⟨b, p + fl.offset, none⟩), ?_, .pt _ b (p + fl.offset) (fun j => us (fl.offset + j)) (fun j hj => ?_) (fun j hj => ?_) (fun j hj => ?_)⟩
    · unfold execOp
      rw [ho]
      simp [hv, Instr.fieldAt, run_underlying h3, hff, Instr.sureAddr, fieldPlace, hsz, h0, Addr.add_lit]
    · have := h1 (fl.offset + j) (by simp at hj; omega)
      rw [← this]; congr 1; omega
    · exact h2 _ (by simp at hj; omega)
    · have := h4 (fl.offset + j) (by simp at hj; omega)
      simpa [List.getD, List.getElem?_drop] using this

def ixOk (i : Value) (n : Nat) : Option Nat :=
  match i with
  | .int _ z => if 0 ≤ z ∧ z < n then some z.toNat else none
  | _ => none
theorem ixOk_inv {i : Value} {n m : Nat} (h : ixOk i n = some m) : ∃ k z, i = .int k z ∧ 0 ≤ z ∧ z < n ∧ z.toNat = m := by
  unfold ixOk at h
  split at h
  · rename_i k z
    split at h
    · rename_i hc; cases h; exact ⟨k, z, rfl, hc.1, hc.2, rfl⟩
    · cases h
  · cases h

theorem ok_iaddr_sl {t : TypeId} {x y : Operand} {ti : TI} {e : TypeId} {esz eb : Nat} {ez : List Value} {xs : List (List AV)} {i : Value} {m : Nat} (hT : TIok P t ti) (hk : ti.kind = .slice e esz eb ez)
    (ho : o.op = .indexAddr t x y) (hx : σ.ev x = some (.sl esz xs)) (hy : σ.ev y = some (.v i)) (hm : ixOk i xs.length = some m) : CoreOk P o σ (.pt (xs.getD m []), []) :=
  CoreOk.pure fun B G w a hr => by
    obtain ⟨k, z, rfl, hz0, hz1, rfl⟩ := ixOk_inv hm
    have hyv := (hr.ev hy).v_eq
    have hxv := hr.ev hx
    obtain ⟨_, _, d, _, _, h3, _, _, _, hkk⟩ := hT.i
    rw [hk] at hkk
    obtain ⟨rfl, j, y', hj1, hj2, _⟩ := hkk
    have hsz : ∀ w, (sizeOf e).run P w = .ok esz w := fun w => size_of_info hj1 hj2
    generalize hv : a.eval x = v at hxv
    cases hxv with
    | sl _ _ ad n c us hn hc hmm h0 hz ha h1 h =>
      subst hn
      obtain ⟨b, p, rfl, hs⟩ := ha (by omega)
      have hzl : z.toNat < xs.length := by omega
      have hl := hz z.toNat hzl
      refine ⟨.pointer (some ⟨b, p + z.toNat * esz, none⟩), ?_, .pt _ b (p + z.toNat * esz) (us z.toNat) (fun j hj => hs _ _ hzl (by omega)) (fun j hj => h1 _ _ hzl (by omega)) (fun j hj => h _ _ hzl (by omega))⟩
      unfold execOp
      rw [ho]
      simp [hv, hyv, Instr.indexAt, asIntOf, run_underlying h3, hz0, hz1, hsz, Addr.add_lit]
theorem ok_iaddr_ref {t : TypeId} {x y : Operand} {ti : TI} {e : TypeId} {esz eb : Nat} {ez : List Value} {k off n : Nat} {i : Value} {m : Nat} {ob : AObj} (hT : TIok P t ti) (hk : ti.kind = .slice e esz eb ez)
    (ho : o.op = .indexAddr t x y) (hx : σ.ev x = some (.ref k off n)) (hob : lk σ.objs k = some ob) (hsz : ob.sz = esz) (hy : σ.ev y = some (.v i)) (hm : ixOk i n = some m) : CoreOk P o σ (.ptr k (off + m) 0, []) :=
  CoreOk.pure fun B G w a hr => by
    obtain ⟨kk, z, rfl, hz0, hz1, rfl⟩ := ixOk_inv hm
    have hyv := (hr.ev hy).v_eq
    have hxv := hr.ev hx
    obtain ⟨_, _, d, _, _, h3, _, _, _, hkk⟩ := hT.i
    rw [hk] at hkk
    obtain ⟨rfl, j, y', hj1, hj2, _⟩ := hkk
    have hsz' : ∀ w, (sizeOf e).run P w = .ok esz w := fun w => size_of_info hj1 hj2
    generalize hv : a.eval x = v at hxv
    cases hxv with
    | ref _ _ _ blk base cap sz ad hl hle hcm hb h0 =>
      obtain ⟨b, rfl, rfl⟩ := hb (by omega)
      obtain ⟨blk', ba, ca, g1, _⟩ := hr.heap.obj k ob hob
      rw [hl] at g1
      cases g1
      subst hsz
      refine ⟨.pointer (some ⟨b, base + ((off + z.toNat) * ob.sz + 0), none⟩), ?_, .ptr k (off + z.toNat) 0 b base cap ob.sz hl⟩
      unfold execOp
      rw [ho]
      simp [hv, hyv, Instr.indexAt, asIntOf, run_underlying h3, hz0, hz1, hsz', Addr.add_lit]
      rw [Nat.add_mul]; omega
theorem ok_iaddr_arr {t : TypeId} {x y : Operand} {ti : TI} {len esz : Nat} {g : Bool} {k e j : Nat} {i : Value} {m : Nat} (hT : TIok P t ti) (hk : ti.kind = .arr len esz g)
    (ho : o.op = .indexAddr t x y) (hx : σ.ev x = some (.ptr k e j)) (hy : σ.ev y = some (.v i)) (hm : ixOk i len = some m) : CoreOk P o σ (.ptr k e (j + m * esz), []) :=
  CoreOk.pure fun B G w a hr => by
    obtain ⟨kk, z, rfl, hz0, hz1, rfl⟩ := ixOk_inv hm
    have hyv := (hr.ev hy).v_eq
    obtain ⟨b, base, cap, sz', hl, hv⟩ := ptr_inv (hr.ev hx)
    obtain ⟨_, _, d, _, _, h3, _, _, _, hkk⟩ := hT.i
    rw [hk] at hkk
    obtain ⟨el, rfl, ⟨jj, hj1, hj2⟩, _⟩ := hkk
    have hsz' : ∀ w, (sizeOf el).run P w = .ok esz w := fun w => size_of_info hj1 hj2
    refine ⟨.pointer (some ⟨b, base + (e * sz' + (j + z.toNat * esz)), none⟩), ?_, .ptr k e (j + z.toNat * esz) b base cap sz' hl⟩
    unfold execOp
    rw [ho]
    simp [hv, hyv, Instr.indexAt, asIntOf, run_underlying h3, hz0, hz1, hsz', Instr.sureAddr, Addr.add_lit]
    try omega
theorem ok_iaddr_arr_pt {t : TypeId} {x y : Operand} {ti : TI} {len esz : Nat} {g : Bool} {cs : List AV} {i : Value} {m : Nat} (hT : TIok P t ti) (hk : ti.kind = .arr len esz g)
    (ho : o.op = .indexAddr t x y) (hx : σ.ev x = some (.pt cs)) (hy : σ.ev y = some (.v i)) (hm : ixOk i len = some m) : CoreOk P o σ (.pt (cs.drop (m * esz)), []) :=
  CoreOk.pure fun B G w a hr => by
    obtain ⟨kk, z, rfl, hz0, hz1, rfl⟩ := ixOk_inv hm
    have hyv := (hr.ev hy).v_eq
    obtain ⟨b, p, hv, us, h1, h2, h4⟩ := pt_inv (hr.ev hx)
    obtain ⟨_, _, d, _, _, h3, _, _, _, hkk⟩ := hT.i
    rw [hk] at hkk
    obtain ⟨el, rfl, ⟨jj, hj1, hj2⟩, _⟩ := hkk
    have hsz' : ∀ w, (sizeOf el).run P w = .ok esz w := fun w => size_of_info hj1 hj2
    refine ⟨.pointer (some ⟨b, p + z.toNat * esz, none⟩), ?_, .pt _ b (p + z.toNat * esz) (fun j => us (z.toNat * esz + j)) (fun j hj => ?_) (fun j hj => ?_) (fun j hj => ?_)⟩
    · unfold execOp
      rw [ho]
      simp [hv, hyv, Instr.indexAt, asIntOf, run_underlying h3, hz0, hz1, hsz', Instr.sureAddr, Addr.add_lit]
    · have := h1 (z.toNat * esz + j) (by simp at hj; omega)
      rw [← this]; congr 1; omega
    · exact h2 _ (by simp at hj; omega)
    · have := h4 (z.toNat * esz + j) (by simp at hj; omega)
      simpa [List.getD, List.getElem?_drop] using this
theorem ok_index {t : TypeId} {x y : Operand} {ti : TI} {len esz : Nat} {g : Bool} {cs : List AV} {i : Value} {m : Nat} (hT : TIok P t ti) (hk : ti.kind = .arr len esz g) (h1 : g = false ∧ esz = 1)
    (ho : o.op = .index t x y) (hx : σ.ev x = some (.agg cs)) (hl : len ≤ cs.length) (hy : σ.ev y = some (.v i)) (hm : ixOk i len = some m) : CoreOk P o σ (cs.getD m .any, []) :=
  CoreOk.pure fun B G w a hr => by
    obtain ⟨kk, z, rfl, hz0, hz1, rfl⟩ := ixOk_inv hm
    obtain ⟨rfl, rfl⟩ := h1
    have hyv := (hr.ev hy).v_eq
    obtain ⟨arr, hv, hls, hone, h⟩ := (hr.ev hx).agg_inv
    obtain ⟨_, _, d, _, _, h3, _, _, _, hkk⟩ := hT.i
    rw [hk] at hkk
    obtain ⟨el, rfl, ⟨jj, hj1, hj2⟩, u, hu1, hu2⟩ := hkk
    have hsz' : ∀ w, (sizeOf el).run P w = .ok 1 w := fun w => size_of_info hj1 hj2
    have hag : ∀ w, (isAgg el).run P w = .ok false w := fun w => agg_of_under hu1 hu2
    refine ⟨arr.getD z.toNat undef, ?_, h _ (by omega)⟩
    unfold execOp
    rw [ho]
    simp [hv, hyv, Instr.index, asIntOf, run_underlying h3, hz0, hz1, hsz', part, hag, show z.toNat < arr.size by omega]
theorem ok_nilck {x : Operand} {av : AV} (ho : o.op = .nilCheck x) (hx : σ.ev x = some av) (hp : (∃ k e j, av = .ptr k e j) ∨ ∃ cs, av = .pt cs) : CoreOk P o σ (av, []) :=
  CoreOk.pure fun B G w a hr => by
    refine ⟨a.eval x, ?_, hr.ev hx⟩
    have h1 := hr.ev hx
    unfold execOp
    rw [ho]
    rcases hp with ⟨k, e, j, rfl⟩ | ⟨cs, rfl⟩
    · obtain ⟨b, base, cap, sz, hl, hv⟩ := ptr_inv h1
      simp [hv]
    · obtain ⟨b, p, hv, _⟩ := pt_inv h1
      simp [hv]
theorem ok_func {fn : FuncId} {cap : Array Operand} {cs : List AV} (ho : o.op = .makeFunc (.func fn) #[] cap) (hl : cs.length = cap.size) (hx : ∀ (i : Nat) (av : AV), cs[i]? = some av → ∃ x, cap[i]? = some x ∧ σ.ev x = some av) : CoreOk P o σ (.clo fn cs, []) :=
  CoreOk.pure fun B G w a hr => by
    refine ⟨.func (.func fn) #[] (cap.map a.eval), ?_, ?_⟩
    · unfold execOp
      rw [ho]
      simp [Instr.makeFunc]
    · have := Rv.clo (G := G) fn cs (cap.map a.eval).toList (by simp [hl]) (fun i hi => by
        obtain ⟨x, h1, h2⟩ := hx i cs[i] (by simp [hi])
        have h3 := hr.ev h2
        have hlt := (Array.getElem?_eq_some_iff.1 h1)
        obtain ⟨hlt, rfl⟩ := hlt
        simpa [List.getD, hi, hlt] using h3)
      rw [Array.toArray_toList] at this
      exact this
theorem ok_bind {fn : FuncId} {cap : Array Operand} {cs : List AV} (ho : o.op = .makeFunc (.func fn) cap #[]) (hl : cs.length = cap.size) (hx : ∀ (i : Nat) (av : AV), cs[i]? = some av → ∃ x, cap[i]? = some x ∧ σ.ev x = some av) : CoreOk P o σ (.bnd fn cs, []) :=
  CoreOk.pure fun B G w a hr => by
    refine ⟨.func (.func fn) (cap.map a.eval) #[], ?_, ?_⟩
    · unfold execOp
      rw [ho]
      simp [Instr.makeFunc]
    · have := Rv.bnd (G := G) fn cs (cap.map a.eval).toList (by simp [hl]) (fun i hi => by
        obtain ⟨x, h1, h2⟩ := hx i cs[i] (by simp [hi])
        have h3 := hr.ev h2
        have hlt := (Array.getElem?_eq_some_iff.1 h1)
        obtain ⟨hlt, rfl⟩ := hlt
        simpa [List.getD, hi, hlt] using h3)
      rw [Array.toArray_toList] at this
      exact this
def lenA : AV → Option Nat
  | .sl _ xs => some xs.length
  | .ref _ _ n => some n
  | .v (.slice _ n _) => some n
  | _ => none
theorem ok_len {x : Operand} {av : AV} {n : Nat} {t : TypeId} {ti : TI} {e : TypeId} {esz eb : Nat} {ez : List Value} (hT : TIok P t ti) (hk : ti.kind = .slice e esz eb ez) (ho : o.op = .call { callee := .builtin .len, args := #[x], argTypes := #[t] }) (hx : σ.ev x = some av) (hn : lenA av = some n) : CoreOk P o σ (.v (.int .i64 n), []) :=
  CoreOk.pure fun B G w a hr => by
    refine ⟨_, ?_, .v _⟩
    have h1 := hr.ev hx
    obtain ⟨_, _, d, _, _, h3, _, _, _, hkk⟩ := hT.i
    rw [hk] at hkk
    obtain ⟨rfl, _⟩ := hkk
    have hv : ∃ ad c, a.eval x = .slice ad n c := by
      generalize a.eval x = v at h1
      unfold lenA at hn
      split at hn
      · cases h1 with | sl _ _ ad n c us hn' => cases hn; subst hn'; exact ⟨_, _, rfl⟩
      · cases h1; cases hn; exact ⟨_, _, rfl⟩
      · cases hn; cases h1; exact ⟨_, _, rfl⟩
      · cases hn
    obtain ⟨ad, c, hv⟩ := hv
    unfold execOp
    rw [ho]
    simp [resolve, invoke, builtin, hv, Builtin.len_, run_underlying h3, goInt]
end reads
end Go.Proofs.YtafikekndefjcaaDoor
/- Am6: An abstract machine for the text, part six: memory that is made and written; plain lemmas over any program; no condition. -/
namespace Go.Proofs.YtafikekndefjcaaDoor
set_option linter.unusedVariables false
set_option linter.unusedSimpArgs false
set_option linter.unusedSectionVars false
open Go.RowKit

def spl {α : Type} (l : List α) (j : Nat) (cs : List α) : List α := l.take j ++ cs ++ l.drop (j + cs.length)
theorem spl_len {α : Type} {l : List α} {j : Nat} {cs : List α} (h : j + cs.length ≤ l.length) : (spl l j cs).length = l.length := by simp [spl]; omega
theorem spl_getD {α : Type} {l : List α} {j : Nat} {cs : List α} (h : j + cs.length ≤ l.length) (i : Nat) (d : α) : (spl l j cs).getD i d = if j ≤ i ∧ i < j + cs.length then cs.getD (i - j) d else l.getD i d := by
  simp only [spl, List.getD, List.append_assoc]
  by_cases h1 : i < j
  · rw [if_neg (by omega), List.getElem?_append_left (by simp; omega), List.getElem?_take, if_pos h1]
  · by_cases h2 : i < j + cs.length
    · rw [if_pos ⟨by omega, h2⟩, List.getElem?_append_right (by simp; omega), List.getElem?_append_left (by simp; omega)]
      congr 2; simp; omega
    · rw [if_neg (by omega), List.getElem?_append_right (by simp; omega), List.getElem?_append_right (by simp; omega), List.getElem?_drop]
      congr 2; simp; omega

section mem
variable {P : Program} {σ : AS} {B : Base} {G : Gh} {w : World} {a : Act}

theorem R.fresh (hr : R B G σ w a) {id : Nat} (h : id ∉ σ.ids) : G.loc id = none := by
  cases hl : G.loc id with
  | none => rfl
  | some l => exact absurd (hr.ids id (by rw [hl]; simp)) h
theorem updI_one (ids : List Nat) (id k : Nat) (x : Option AObj) : k ∈ updI ids [(id, x)] ↔ k = id ∨ k ∈ ids := by
  simp only [updI]
  split
  · rename_i h
    constructor
    · exact .inr
    · rintro (rfl | h2); exact h; exact h2
  · simp

theorem R.new (hr : R B G σ w a) {id : Nat} (hid : id ∉ σ.ids) {t : TypeId} {sz cap : Nat} {xs : List (List AV)} {vs : Array Value} (h0 : 0 < sz) (hcap : xs.length ≤ cap) (hmax : cap ≤ 9223372036854775807) (hsz : cap * sz ≤ vs.size) (hlen : ∀ i, i < xs.length → (xs.getD i []).length = sz)
    (hval : ∀ i j, i < xs.length → j < sz → (vs.getD (i * sz + j) undef).oneCell' = true ∧ Rv G ((xs.getD i []).getD j .any) (vs.getD (i * sz + j) undef)) {w1 : World} (hw : w1.heap = w.heap ∧ w1.os = w.os ∧ w1.tape = w.tape ∧ w1.output = w.output) :
    G.le (G.add id (some w.heap.size, 0, cap, sz)) ∧ R B (G.add id (some w.heap.size, 0, cap, sz)) (σ.upd [(id, some ⟨t, sz, xs⟩)]) (w1.alloc (.cells vs t)) a := by
  have hn := hr.fresh hid
  have hle : G.le (G.add id (some w.heap.size, 0, cap, sz)) := Gh.add_le hn
  obtain ⟨hh, ho, ht, hu⟩ := hw
  have hnew : (w1.alloc (.cells vs t)).heap[w.heap.size]? = some (.cells vs t (0, 0)) := by rw [← hh]; exact heap_alloc_new w1 _
  have hold : ∀ b, b < w.heap.size → (w1.alloc (.cells vs t)).heap[b]? = w.heap[b]? := fun b hb => by
    rw [Below.heap_alloc w1 _ b (by rw [hh]; exact hb), hh]
  refine ⟨hle, hr.n, fun s av hs => ?_, hr.defers, ?_, fun k hk => ?_⟩
  · obtain ⟨h1, h2⟩ := hr.slot s av hs
    exact ⟨h1, h2.mono hle⟩
  · refine hr.heap.step ho ht hu (by show w.heap.size ≤ (w1.heap.push _).size; rw [hh]; simp) hle rfl w.heap.size id (fun b _ hlt => hold b hlt) (.inl (Nat.le_refl _)) (fun k ob hk => ?_)
    simp only [AS.upd, updO, lk_st] at hk
    split at hk
    · rename_i e; subst e
      cases hk
      refine .inl ⟨rfl, .of h0 ⟨some w.heap.size, 0, cap, Gh.add_self, hcap, hmax, hlen, vs, hnew, by simpa using hsz, fun i j hi hj => ?_⟩, fun b x hl => ?_⟩
      · simp only [Nat.zero_add]
        exact ⟨(hval i j hi hj).1, (hval i j hi hj).2.mono hle⟩
      · rw [Gh.add_self] at hl; cases hl; rfl
    · rename_i e
      refine .inr ⟨Ne.symm e, hk, fun b x hl => ?_⟩
      have := (hr.heap.obj k ob hk).lt hl
      omega
  · rw [AS.upd, updI_one]
    simp only [Gh.add] at hk
    split at hk
    · exact .inl (by assumption)
    · exact .inr (hr.ids k hk)

theorem setRow_frame (w : World) (g : Nat) (vs : Array Value) : (w.setRow g vs).os = w.os ∧ (w.setRow g vs).tape = w.tape ∧ (w.setRow g vs).output = w.output ∧ (w.setRow g vs).heap.size = w.heap.size ∧ ∀ b, b ≠ g → (w.setRow g vs).heap[b]? = w.heap[b]? := by
  refine ⟨rfl, rfl, rfl, by simp [World.setRow], fun b hb => ?_⟩
  simp only [World.setRow, Array.getElem?_modify]
  rw [if_neg (fun e => hb e.symm)]

theorem R.write (hr : R B G σ w a) {k e j : Nat} {ob : AObj} (hk : lk σ.objs k = some ob) {b base cap sz : Nat} (hl : G.loc k = some (some b, base, cap, sz)) (he : e < ob.xs.length) {cs : List AV} {us : List Value} (hz : 0 < ob.sz) (hj : j + cs.length ≤ ob.sz) (hus : us.length = cs.length)
    (h1 : ∀ u ∈ us, u.oneCell' = true) (hv : ∀ i, i < cs.length → Rv G (cs.getD i .any) (us.getD i undef)) :
    ∃ vs : Array Value, w.heap[b]? = some (.cells vs ob.t (0, 0)) ∧ base + (e * ob.sz + j) + us.length ≤ vs.size ∧
      R B G (σ.upd [(k, some { ob with xs := ob.xs.set e (spl (ob.xs.getD e []) j cs) })]) (w.setRow b (spl vs.toList (base + (e * ob.sz + j)) us).toArray) a := by
  obtain ⟨blk, ba, ca, g1, g2, g3, g4, g5⟩ := (hr.heap.obj k ob hk).cells hz
  rw [hl] at g1
  cases g1
  obtain ⟨vs, g6, g7, g8⟩ := g5
  have hrow : (e + 1) * ob.sz ≤ cap * ob.sz := Nat.mul_le_mul_right _ (by omega)
  rw [Nat.add_mul] at hrow
  have hfit : base + (e * ob.sz + j) + us.length ≤ vs.size := by omega
  have hlen := g4 e he
  refine ⟨vs, g6, hfit, hr.n, fun s av hs => hr.slot s av hs, hr.defers, ?_, fun q hq => ?_⟩
  · obtain ⟨f1, f2, f3, f4, f5⟩ := setRow_frame w b (spl vs.toList (base + (e * ob.sz + j)) us).toArray
    refine hr.heap.step f1 f2 f3 (by rw [f4]; exact Nat.le_refl _) (Gh.le.refl G) rfl b k (fun q hq _ => f5 q hq) (.inr ⟨k, ob, _, hk, hl⟩) (fun q oq hq => ?_)
    simp only [AS.upd, updO, lk_st] at hq
    split at hq
    · rename_i eq; subst eq
      cases hq
      refine .inl ⟨rfl, .of hz ⟨some b, base, cap, hl, by simpa using g2, g3, fun i hi => ?_, (spl vs.toList (base + (e * ob.sz + j)) us).toArray, ?_, ?_, fun i c hi hc => ?_⟩, fun b' x hl' => ?_⟩
      · simp only [List.length_set] at hi
        by_cases h : i = e
        · subst h
          have : (ob.xs.set i (spl (ob.xs.getD i []) j cs)).getD i [] = spl (ob.xs.getD i []) j cs := by simp [List.getD, List.getElem?_set, he]
          rw [this, spl_len (l := ob.xs.getD i []) (j := j) (cs := cs) (by omega)]; exact hlen
        · have : (ob.xs.set e (spl (ob.xs.getD e []) j cs)).getD i [] = ob.xs.getD i [] := by simp [List.getD, List.getElem?_set, Ne.symm h]
          rw [this]; exact g4 i hi
      · simp [World.setRow, g6, Array.getElem?_modify]
      · have := spl_len (l := vs.toList) (j := base + (e * ob.sz + j)) (cs := us) (by simpa using hfit)
        simp only [List.size_toArray, this]; simpa using g7
      · simp only [List.length_set] at hi
        replace hc : c < ob.sz := hc
        have hget : (spl vs.toList (base + (e * ob.sz + j)) us).toArray.getD (base + (i * ob.sz + c)) undef = if base + (e * ob.sz + j) ≤ base + (i * ob.sz + c) ∧ base + (i * ob.sz + c) < base + (e * ob.sz + j) + us.length then us.getD (base + (i * ob.sz + c) - (base + (e * ob.sz + j))) undef else vs.getD (base + (i * ob.sz + c)) undef := by
          have := spl_getD (l := vs.toList) (j := base + (e * ob.sz + j)) (cs := us) (by simpa using hfit) (base + (i * ob.sz + c)) undef
          simpa [List.getD, Array.getD_eq_getD_getElem?] using this
        rw [hget]
        by_cases h : i = e
        · subst h
          have e1 : (ob.xs.set i (spl (ob.xs.getD i []) j cs)).getD i [] = spl (ob.xs.getD i []) j cs := by simp [List.getD, List.getElem?_set, he]
          rw [e1, spl_getD (l := ob.xs.getD i []) (j := j) (cs := cs) (by omega)]
          by_cases h2 : j ≤ c ∧ c < j + cs.length
          · rw [if_pos ⟨by omega, by omega⟩, if_pos h2]
            have e2 : base + (i * ob.sz + c) - (base + (i * ob.sz + j)) = c - j := by omega
            rw [e2]
            have hcl : c - j < us.length := by omega
            refine ⟨h1 _ ?_, hv _ (by omega)⟩
            simp [List.getD, hcl]
          · rw [if_neg (by omega), if_neg h2]
            exact g8 i c hi hc
        · have e1 : (ob.xs.set e (spl (ob.xs.getD e []) j cs)).getD i [] = ob.xs.getD i [] := by simp [List.getD, List.getElem?_set, Ne.symm h]
          rw [e1, if_neg ?_]
          · exact g8 i c hi hc
          · rcases Nat.lt_or_gt_of_ne h with h | h
            · have : (i + 1) * ob.sz ≤ e * ob.sz := Nat.mul_le_mul_right _ h
              rw [Nat.add_mul] at this; omega
            · have : (e + 1) * ob.sz ≤ i * ob.sz := Nat.mul_le_mul_right _ h
              rw [Nat.add_mul] at this; omega
      · rw [hl] at hl'; cases hl'; rfl
    · rename_i eq
      refine .inr ⟨Ne.symm eq, hq, fun b' x hl' e => eq ?_⟩
      subst e
      exact hr.heap.inj k q ob oq hk hq _ _ _ hl hl'
  · rw [AS.upd, updI_one]; exact .inr (hr.ids q hq)
end mem

section ops
variable {P : Program} {σ : AS} {o : Oper}
theorem getD_flat {cs : List AV} {ti : TI} (n : Nat) : True := trivial

theorem alloc_eq (w : World) (o : Obj) : ({ w with heap := w.heap.push o } : World) = w.alloc o := rfl
theorem ok_alloc {t : TypeId} {ti : TI} {id : Nat} (hT : TIok P t ti) (ho : o.op = .alloc t) (hid : id ∉ σ.ids) : CoreOk P o σ (.ptr id 0 0, [(id, some ⟨t, ti.size, [ti.zero.map .v]⟩)]) := by
  intro B G w a hr K Q hK
  obtain ⟨z, hz1, hz2⟩ := hT.run_zero (w := w)
  obtain ⟨hle, hr'⟩ := hr.new (t := t) (sz := ti.size) (cap := 1) (xs := [ti.zero.map .v]) (vs := z.cells) hid hT.pos (by simp) (by omega) (by rw [← hT.len, ← hz2]; simp) (fun i hi => by
      have : i = 0 := by simpa using hi
      subst this; simp [hT.len]) (fun i j hi hj => by
      have : i = 0 := by simpa using hi
      subst this
      have hjz : j < z.cells.size := by rw [← Array.length_toList, hz2, hT.len]; exact hj
      have e : z.cells.getD (0 * ti.size + j) undef = ti.zero.getD j undef := by rw [← hz2]; simp [List.getD, Array.getD_eq_getD_getElem?]
      have hj2 : j < ti.zero.length := by rw [hT.len]; exact hj
      rw [e]
      refine ⟨hT.one _ (by simp [List.getD, hj2]), ?_⟩
      have : (([ti.zero.map AV.v] : List (List AV)).getD 0 []).getD j .any = .v (ti.zero.getD j undef) := by simp [List.getD, hj2]
      rw [this]; exact .v _) (w1 := w) ⟨rfl, rfl, rfl, rfl⟩
  unfold Oper.wp
  have hrun : (execOp a.eval o).run P w = .ok (.value (.pointer (some ⟨w.heap.size, 0, none⟩))) (w.alloc (.cells z.cells t)) := by
    unfold execOp
    rw [ho]
    simp [Instr.alloc, hz1, newVar, newRow, alloc_eq]
  rw [hrun]
  refine hK _ _ _ hle hr' ?_
  have := Rv.ptr (G := G.add id (some w.heap.size, 0, 1, ti.size)) id 0 0 w.heap.size 0 1 ti.size Gh.add_self
  simpa using this
theorem ok_box {t : TypeId} {ti : TI} {id : Nat} {x : Operand} {av : AV} (hT : TIok P t ti) (ho : o.op = .box t x) (hx : σ.ev x = some av) (hf : av.flat = true) (hl : av.cells.length = ti.size) (hid : id ∉ σ.ids) : CoreOk P o σ (.ptr id 0 0, [(id, some ⟨t, ti.size, [av.cells]⟩)]) := by
  intro B G w a hr K Q hK
  obtain ⟨g1, g2, g3⟩ := (hr.ev hx).stored hf
  obtain ⟨hle, hr'⟩ := hr.new (t := t) (sz := ti.size) (cap := 1) (xs := [av.cells]) (vs := (a.eval x).cells) hid hT.pos (by simp) (by omega) (by omega) (fun i hi => by
      have : i = 0 := by simpa using hi
      subst this; simpa using hl) (fun i j hi hj => by
      have : i = 0 := by simpa using hi
      subst this
      have hjz : j < (a.eval x).cells.size := by omega
      simp only [Nat.zero_mul, Nat.zero_add]
      refine ⟨g2 _ (by simp [Array.getD, hjz]), ?_⟩
      have : (([av.cells] : List (List AV)).getD 0 []).getD j .any = av.cells.getD j .any := by simp
      rw [this]; exact g3 j (by omega)) (w1 := w) ⟨rfl, rfl, rfl, rfl⟩
  unfold Oper.wp
  have hrun : (execOp a.eval o).run P w = .ok (.value (.pointer (some ⟨w.heap.size, 0, none⟩))) (w.alloc (.cells (a.eval x).cells t)) := by
    unfold execOp
    rw [ho]
    simp [Instr.box, newVar, newRow, alloc_eq]
  rw [hrun]
  refine hK _ _ _ hle hr' ?_
  have := Rv.ptr (G := G.add id (some w.heap.size, 0, 1, ti.size)) id 0 0 w.heap.size 0 1 ti.size Gh.add_self
  simpa using this
theorem ok_store {t : TypeId} {ti : TI} {p x : Operand} {k e j : Nat} {ob : AObj} {av : AV} (hT : TIok P t ti) (ho : o.op = .store t p x) (hp : σ.ev p = some (.ptr k e j)) (hk : lk σ.objs k = some ob) (he : e < ob.xs.length) (hx : σ.ev x = some av) (hf : av.flat = true) (hl : av.cells.length = ti.size) (hj : j + ti.size ≤ ob.sz) :
    CoreOk P o σ (.v undef, [(k, some { ob with xs := ob.xs.set e (spl (ob.xs.getD e []) j av.cells) })]) := by
  intro B G w a hr K Q hK
  obtain ⟨b, base, cap, sz, hl', hv⟩ := ptr_inv (hr.ev hp)
  obtain ⟨g1, g2, g3⟩ := (hr.ev hx).stored hf
  have hsz : sz = ob.sz := by
    obtain ⟨blk, ba, ca, h1, _⟩ := hr.heap.obj k ob hk
    rw [hl'] at h1; cases h1; rfl
  subst hsz
  obtain ⟨vs, h6, h7, h8⟩ := hr.write hk hl' he (j := j) (cs := av.cells) (us := (a.eval x).cells.toList) (by have := hT.pos; omega) (by omega) (by simpa using g1) (by simpa using g2) (fun i hi => by simpa [List.getD, Array.getD_eq_getD_getElem?] using g3 i hi)
  have hst := run_storeCells_at P b (base + (e * ob.sz + j)) ob.t (a.eval x).cells.toList 0 vs w h6 (by simpa using h7) (by simpa using g2)
  unfold Oper.wp
  have hrun : (execOp a.eval o).run P w = .ok .skip (w.setRow b (spl vs.toList (base + (e * ob.sz + j)) (a.eval x).cells.toList).toArray) := by
    unfold execOp
    rw [ho]
    simp only [hv, Instr.storeAt, Instr.sureAddr, storeVar, Sem.run_bind, Sem.run_pure, Result.andThen_ok, hT.run_size]
    rw [if_neg (by rw [g1, hl]; simp)]
    simp only [Sem.run_bind, Sem.run_pure, Result.andThen_ok, hst]
    simp [spl]
  rw [hrun]
  exact hK G _ undef (Gh.le.refl G) h8 (.v _)
end ops
end Go.Proofs.YtafikekndefjcaaDoor
/- Am7: An abstract machine for the text, part seven: structs, arrays and slices written out; plain lemmas over any program; no condition. -/
namespace Go.Proofs.YtafikekndefjcaaDoor
set_option linter.unusedVariables false
set_option linter.unusedSimpArgs false
set_option linter.unusedSectionVars false
open Go.RowKit

def fillA (place : Nat → Option (Nat × Nat)) (cells : List AV) : List (Nat × AV) → Option (List AV)
  | [] => some cells
  | (i, a) :: rest =>
    match place i with
    | none => none
    | some (off, size) => if a.flat = true ∧ a.cells.length = size ∧ off + size ≤ cells.length then fillA place (spl cells off a.cells) rest else none

theorem fold_size : ∀ (vs : List Value) (k off : Nat) (cells : Array Value), ((vs.zipIdx k).foldl (fun cs (p : Value × Nat) => cs.setIfInBounds (off + p.2) p.1) cells).size = cells.size
  | [], _, _, _ => rfl
  | v :: vs, k, off, cells => by simp only [List.zipIdx_cons, List.foldl_cons]; rw [fold_size vs]; simp
theorem fold_get : ∀ (vs : List Value) (k off : Nat) (cells : Array Value) (i : Nat), off + k + vs.length ≤ cells.size →
    ((vs.zipIdx k).foldl (fun cs (p : Value × Nat) => cs.setIfInBounds (off + p.2) p.1) cells).getD i undef = if off + k ≤ i ∧ i < off + k + vs.length then vs.getD (i - (off + k)) undef else cells.getD i undef
  | [], k, off, cells, i, _ => by simp only [List.zipIdx_nil, List.foldl_nil, List.length_nil]; rw [if_neg (by omega)]
  | v :: vs, k, off, cells, i, h => by
    simp only [List.length_cons] at h
    simp only [List.zipIdx_cons, List.foldl_cons, List.length_cons]
    rw [fold_get vs (k + 1) off _ i (by simp; omega)]
    by_cases h1 : i = off + k
    · subst h1
      rw [if_neg (by omega), if_pos (by omega)]
      simp [Array.getD_eq_getD_getElem?, show off + k < cells.size by omega]
    · by_cases h2 : off + k ≤ i ∧ i < off + k + (vs.length + 1)
      · rw [if_pos (by omega), if_pos h2]
        have : i - (off + k) = (i - (off + (k + 1))) + 1 := by omega
        rw [this]; simp
      · rw [if_neg (by omega), if_neg h2]
        have hne : off + k ≠ i := fun e => h1 e.symm
        simp [Array.getD_eq_getD_getElem?, Array.getElem?_setIfInBounds, hne]

structure CellsR (G : Gh) (cs : List AV) (us : Array Value) : Prop where
  len : us.size = cs.length
  one : ∀ i, i < cs.length → (us.getD i undef).oneCell' = true
  rv : ∀ i, i < cs.length → Rv G (cs.getD i .any) (us.getD i undef)

theorem fill_ok {G : Gh} (place : Nat → Option (Nat × Nat)) : ∀ (parts : List (Nat × AV)) (vals : List (Nat × Value)) (cells out : List AV) (us : Array Value), CellsR G cells us → vals.length = parts.length →
    (∀ i, i < parts.length → (vals.getD i (0, undef)).1 = (parts.getD i (0, .any)).1 ∧ Rv G (parts.getD i (0, .any)).2 (vals.getD i (0, undef)).2) → fillA place cells parts = some out → ∃ us', Instr.fill place us vals = some us' ∧ CellsR G out us'
  | [], vals, cells, out, us, hc, hl, _, h => by
    have : vals = [] := List.eq_nil_of_length_eq_zero (by simpa using hl)
    subst this
    simp only [fillA, Option.some.injEq] at h
    subst h
    exact ⟨us, rfl, hc⟩
  | (i, a) :: rest, [], _, _, _, _, hl, _, _ => by simp at hl
  | (i, a) :: rest, (i', v) :: vrest, cells, out, us, hc, hl, hp, h => by
    have h0 := hp 0 (by simp)
    simp only [List.getD_cons_zero] at h0
    obtain ⟨e0, hrv⟩ := h0
    subst e0
    simp only [fillA] at h
    split at h
    · cases h
    · rename_i off size hpl
      split at h
      · rename_i hcond
        obtain ⟨hf, hsz, hfit⟩ := hcond
        obtain ⟨g1, g2, g3⟩ := hrv.stored hf
        have hstep : CellsR G (spl cells off a.cells) (v.cells.zipIdx.foldl (fun cs (p : Value × Nat) => cs.setIfInBounds (off + p.2) p.1) us) := by
          have e : v.cells.zipIdx.foldl (fun cs (p : Value × Nat) => cs.setIfInBounds (off + p.2) p.1) us = (v.cells.toList.zipIdx 0).foldl (fun cs (p : Value × Nat) => cs.setIfInBounds (off + p.2) p.1) us := by
            rw [← Array.foldl_toList, Array.toList_zipIdx]
          rw [e]
          have hlen : v.cells.toList.length = a.cells.length := by simpa using g1
          have hus := hc.len
          have key : ∀ q, ((v.cells.toList.zipIdx 0).foldl (fun cs (p : Value × Nat) => cs.setIfInBounds (off + p.2) p.1) us).getD q undef = if off ≤ q ∧ q < off + a.cells.length then v.cells.toList.getD (q - off) undef else us.getD q undef := fun q => by
            rw [fold_get _ 0 off us q (by omega), hlen]; rfl
          refine ⟨by rw [fold_size, spl_len (by omega)]; exact hus, fun q hq => ?_, fun q hq => ?_⟩
          · rw [spl_len (by omega)] at hq
            rw [key]
            split
            · rename_i hqq
              have : q - off < v.cells.size := by omega
              exact g2 _ (by simp [List.getD, this])
            · exact hc.one q hq
          · rw [spl_len (by omega)] at hq
            rw [key, spl_getD (l := cells) (j := off) (cs := a.cells) (by omega)]
            split
            · rename_i hqq
              have := g3 (q - off) (by omega)
              simpa [List.getD, Array.getD_eq_getD_getElem?] using this
            · exact hc.rv q hq
        obtain ⟨us', h5, h6⟩ := fill_ok place rest vrest _ out _ hstep (by simpa using hl) (fun j hj => by
          have := hp (j + 1) (by simpa using hj)
          simpa using this) h
        refine ⟨us', ?_, h6⟩
        have hus := hc.len
        have hc1 : ¬ (v.cells.size ≠ size) := by omega
        have hc2 : ¬ (off + v.cells.size > us.size) := by omega
        simp only [Instr.fill, hpl]
        rw [if_neg (by simp only [Bool.or_eq_true, decide_eq_true_eq]; omega)]
        exact h5
      · cases h

def AS.parts (σ : AS) : List (Nat × Operand) → Option (List (Nat × AV))
  | [] => some []
  | (i, x) :: r => match σ.ev x, σ.parts r with
    | some a, some l => some ((i, a) :: l)
    | _, _ => none
theorem R.parts {B : Base} {G : Gh} {σ : AS} {w : World} {a : Act} (hr : R B G σ w a) : ∀ {ps : List (Nat × Operand)} {l : List (Nat × AV)}, σ.parts ps = some l →
    (ps.map fun p => (p.1, a.eval p.2)).length = l.length ∧ ∀ i, i < l.length → ((ps.map fun p => (p.1, a.eval p.2)).getD i (0, undef)).1 = (l.getD i (0, .any)).1 ∧ Rv G (l.getD i (0, .any)).2 ((ps.map fun p => (p.1, a.eval p.2)).getD i (0, undef)).2
  | [], l, h => by simp only [AS.parts, Option.some.injEq] at h; subst h; exact ⟨rfl, fun i hi => by simp at hi⟩
  | (i, x) :: r, l, h => by
    simp only [AS.parts] at h
    split at h
    · rename_i av l' hx hl
      cases h
      obtain ⟨h1, h2⟩ := hr.parts hl
      refine ⟨by simpa using h1, fun j hj => ?_⟩
      cases j with
      | zero => simpa using hr.ev hx
      | succ j => simpa using h2 j (by simpa using hj)
    · cases h

section ops
variable {P : Program} {σ : AS} {o : Oper}

theorem run_places {P : Program} {w : World} : ∀ (fields : List Field) (ps : List (Nat × Nat)), fields.length = ps.length → (∀ (i : Nat) (f : Field), fields[i]? = some f → ∃ s, ps[i]? = some (f.offset, s) ∧ (sizeOf f.type).run P w = .ok s w) →
    (fields.mapM fun f => (do pure (f.offset, ← sizeOf f.type) : Sem (Nat × Nat))).run P w = .ok ps w
  | [], ps, hl, _ => by
    have : ps = [] := List.eq_nil_of_length_eq_zero (by simpa using hl.symm)
    subst this; rfl
  | f :: fs, [], hl, _ => by simp at hl
  | f :: fs, p :: ps, hl, h => by
    obtain ⟨s, h1, h2⟩ := h 0 f (by simp)
    have ih := run_places (P := P) (w := w) fs ps (by simpa using hl) (fun i g hg => h (i + 1) g (by simpa using hg))
    rw [List.mapM_cons]
    simp only [List.getElem?_cons_zero, Option.some.injEq] at h1
    subst h1
    simp only [Sem.run_bind, h2, Result.andThen_ok, Sem.run_pure, ih]

theorem zero_cells {G : Gh} {z : Array Value} {l : List Value} (h : z.toList = l) (h1 : ∀ u ∈ l, u.oneCell' = true) : CellsR G (l.map .v) z := by
  subst h
  refine ⟨by simp, fun i hi => ?_, fun i hi => ?_⟩
  · have hi' : i < z.size := by simpa using hi
    exact h1 _ (by simp [Array.getD, hi'])
  · have hi' : i < z.size := by simpa using hi
    have : ((z.toList.map AV.v).getD i .any) = .v (z.getD i undef) := by simp [List.getD, hi', Array.getD_eq_getD_getElem?]
    rw [this]; exact .v _

theorem ok_build_st {t : TypeId} {ti : TI} {fs : List (Nat × Nat × Bool)} {parts : Array (Nat × Operand)} {l : List (Nat × AV)} {out : List AV} (hT : TIok P t ti) (hk : ti.kind = .strct fs) (ho : o.op = .build t parts) (hp : σ.parts parts.toList = some l)
    (hf : fillA (fun i => (fs[i]?).map fun x : Nat × Nat × Bool => (x.1, x.2.1)) (ti.zero.map .v) l = some out) : CoreOk P o σ (.agg out, []) :=
  CoreOk.pure fun B G w a hr => by
    obtain ⟨z, hz1, hz2⟩ := hT.run_zero (w := w)
    obtain ⟨_, _, d, _, _, h3, _, _, _, hkk⟩ := hT.i
    rw [hk] at hkk
    obtain ⟨fields, rfl, hfl, hflds⟩ := hkk
    obtain ⟨p1, p2⟩ := hr.parts hp
    obtain ⟨us', h5, h6⟩ := fill_ok (G := G) _ l _ _ out z.cells (zero_cells hz2 hT.one) p1 p2 hf
    have hrun := run_places (P := P) (w := w) fields.toList (fs.map fun x : Nat × Nat × Bool => (x.1, x.2.1)) (by simpa using hfl) (fun i f hi => by
      have hi' : i < fs.length := by rw [← hfl]; simpa using (List.getElem?_eq_some_iff.1 hi).1
      obtain ⟨fl, g1, g2, ⟨j, g3, g4⟩, _⟩ := hflds i fs[i].1 fs[i].2.1 fs[i].2.2 (by simp [hi'])
      have : f = fl := by
        have : fields[i]? = some f := by simpa using hi
        rw [this] at g1; exact Option.some.inj g1
      subst this
      exact ⟨fs[i].2.1, by simp [hi', g2], size_of_info g3 g4⟩)
    refine ⟨.agg us', ?_, Rv.agg' h6.len (fun u hu => ?_) h6.rv⟩
    · unfold execOp
      rw [ho]
      have hplace : (fun i : Nat => (fs.map fun x : Nat × Nat × Bool => (x.1, x.2.1)).toArray[i]?) = (fun i : Nat => (fs[i]?).map fun x : Nat × Nat × Bool => (x.1, x.2.1)) := by funext i; simp
      have hmapM : (fields.mapM fun f => (do pure (f.offset, ← sizeOf f.type) : Sem (Nat × Nat))).run P w = .ok (fs.map fun x : Nat × Nat × Bool => (x.1, x.2.1)).toArray w := by
        rw [Array.mapM_eq_mapM_toList]
        simp only [Sem.run_map, hrun, Result.andThen_ok]
      have hpa : (parts.map fun (i, x) => (i, a.eval x)).toList = parts.toList.map fun p => (p.1, a.eval p.2) := by simp
      simp only [Instr.build, Sem.run_bind, hz1, Result.andThen_ok, run_underlying h3, hmapM, hpa, hplace, h5, Sem.run_pure]
    · obtain ⟨i, hi, rfl⟩ := Array.mem_iff_getElem.1 hu
      have := h6.one i (by rw [← h6.len]; exact hi)
      simpa [Array.getD, hi] using this
theorem ok_build_arr {t : TypeId} {ti : TI} {len esz : Nat} {g : Bool} {parts : Array (Nat × Operand)} {l : List (Nat × AV)} {out : List AV} (hT : TIok P t ti) (hk : ti.kind = .arr len esz g) (ho : o.op = .build t parts) (hp : σ.parts parts.toList = some l)
    (hf : fillA (fun i => some (i * esz, esz)) (ti.zero.map .v) l = some out) : CoreOk P o σ (.agg out, []) :=
  CoreOk.pure fun B G w a hr => by
    obtain ⟨z, hz1, hz2⟩ := hT.run_zero (w := w)
    obtain ⟨_, _, d, _, _, h3, _, _, _, hkk⟩ := hT.i
    rw [hk] at hkk
    obtain ⟨el, rfl, ⟨jj, hj1, hj2⟩, _⟩ := hkk
    have hsz' : ∀ w, (sizeOf el).run P w = .ok esz w := fun w => size_of_info hj1 hj2
    obtain ⟨p1, p2⟩ := hr.parts hp
    obtain ⟨us', h5, h6⟩ := fill_ok (G := G) _ l _ _ out z.cells (zero_cells hz2 hT.one) p1 p2 hf
    refine ⟨.agg us', ?_, Rv.agg' h6.len (fun u hu => ?_) h6.rv⟩
    · unfold execOp
      rw [ho]
      have hpa : (parts.map fun (i, x) => (i, a.eval x)).toList = parts.toList.map fun p => (p.1, a.eval p.2) := by simp
      simp only [Instr.build, Sem.run_bind, hz1, Result.andThen_ok, run_underlying h3, hsz', hpa, h5, Sem.run_pure]
    · obtain ⟨i, hi, rfl⟩ := Array.mem_iff_getElem.1 hu
      have := h6.one i (by rw [← h6.len]; exact hi)
      simpa [Array.getD, hi] using this

def chunk {α : Type} (esz n : Nat) (cells : List α) : List (List α) := (List.range n).map fun i => (cells.drop (i * esz)).take esz
theorem chunk_getD {α : Type} {esz n : Nat} {cells : List α} {i : Nat} (hi : i < n) : (chunk esz n cells).getD i [] = (cells.drop (i * esz)).take esz := by simp [chunk, List.getD, hi]
theorem chunk_len {α : Type} {esz n : Nat} {cells : List α} : (chunk esz n cells).length = n := by simp [chunk]
theorem chunk_row {esz n : Nat} {cells : List AV} (h : n * esz ≤ cells.length) {i : Nat} (hi : i < n) : ((chunk esz n cells).getD i []).length = esz := by
  rw [chunk_getD hi]
  have : (i + 1) * esz ≤ n * esz := Nat.mul_le_mul_right _ hi
  rw [Nat.add_mul] at this
  simp; omega
theorem chunk_cell {esz n : Nat} {cells : List AV} {i j : Nat} (hi : i < n) (hj : j < esz) : ((chunk esz n cells).getD i []).getD j .any = cells.getD (i * esz + j) .any := by
  rw [chunk_getD hi]
  simp [List.getD, List.getElem?_take, hj, List.getElem?_drop]

def zeros (ez : List Value) (n : Nat) : List AV := (List.range n).map fun i => .v (ez.getD (i % ez.length) undef)
theorem zeros_cells {G : Gh} {z : Array Value} {ez : List Value} {n : Nat} (h : z.toList = ez) (h1 : ∀ u ∈ ez, u.oneCell' = true) (h0 : 0 < n → 0 < ez.length) : CellsR G (zeros ez n) ((Array.range n).map (z[· % z.size]!)) := by
  subst h
  refine ⟨by simp [zeros], fun i hi => ?_, fun i hi => ?_⟩
  · have hi' : i < n := by simpa [zeros] using hi
    have hz : 0 < z.size := by simpa using h0 (by omega)
    have hm : i % z.size < z.size := Nat.mod_lt _ hz
    have e : ((Array.range n).map (z[· % z.size]!)).getD i undef = z[i % z.size] := by simp [Array.getD_eq_getD_getElem?, hi', hm]
    rw [e]; exact h1 _ (by simp)
  · have hi' : i < n := by simpa [zeros] using hi
    have hz : 0 < z.size := by simpa using h0 (by omega)
    have hm : i % z.size < z.size := Nat.mod_lt _ hz
    have e : ((Array.range n).map (z[· % z.size]!)).getD i undef = z[i % z.size] := by simp [Array.getD_eq_getD_getElem?, hi', hm]
    have e2 : (zeros z.toList n).getD i .any = .v z[i % z.size] := by simp [zeros, List.getD, hi', hm]
    rw [e, e2]; exact .v _
theorem ok_buildSlice {t : TypeId} {ti : TI} {e : TypeId} {esz eb n id : Nat} {ez : List Value} {parts : Array (Nat × Operand)} {l : List (Nat × AV)} {out : List AV} (hT : TIok P t ti) (hk : ti.kind = .slice e esz eb ez) (ho : o.op = .buildSlice t n parts) (hp : σ.parts parts.toList = some l)
    (hf : fillA (fun i => some (i * esz, esz)) (zeros ez (n * esz)) l = some out) (hsm : n * esz ≤ 16777216) (hes : 0 < esz) (hid : id ∉ σ.ids) : CoreOk P o σ (.ref id 0 n, [(id, some ⟨e, esz, chunk esz n out⟩)]) := by
  intro B G w a hr K Q hK
  obtain ⟨hezl, hezo⟩ := hT.ezero _ _ _ _ hk
  obtain ⟨_, _, d, _, _, h3, _, _, _, hkk⟩ := hT.i
  rw [hk] at hkk
  obtain ⟨rfl, j, y, hj1, hj2, hj3, hj4, hj5⟩ := hkk
  have hsz' : ∀ w, (sizeOf e).run P w = .ok esz w := fun w => size_of_info hj1 hj2
  obtain ⟨p1, p2⟩ := hr.parts hp
  obtain ⟨us', h5, h6⟩ := fill_ok (G := G) _ l _ _ out _ (zeros_cells hj5 hezo (by omega)) p1 p2 hf
  have hol : out.length = n * esz := by
    have hfl : ∀ (l : List (Nat × AV)) (c out : List AV), fillA (fun i => some (i * esz, esz)) c l = some out → out.length = c.length := by
      intro l
      induction l with
      | nil => intro c out h; simp only [fillA, Option.some.injEq] at h; rw [h]
      | cons p r ih =>
        obtain ⟨i, av⟩ := p
        intro c out h
        simp only [fillA] at h
        split at h
        · rename_i hc
          rw [ih _ _ h, spl_len (by omega)]
        · cases h
    rw [hfl _ _ _ hf]; simp [zeros]
  have hlen := h6.len
  obtain ⟨hle, hr'⟩ := hr.new (t := e) (sz := esz) (cap := n) (xs := chunk esz n out) (vs := us') hid hes (by rw [chunk_len]; exact Nat.le_refl _) (by
      have : n * 1 ≤ n * esz := Nat.mul_le_mul_left _ hes
      omega) (by omega) (fun i hi => chunk_row (by omega) (by rw [chunk_len] at hi; exact hi)) (fun i j hi hj => by
      rw [chunk_len] at hi
      have : (i + 1) * esz ≤ n * esz := Nat.mul_le_mul_right _ hi
      rw [Nat.add_mul] at this
      rw [chunk_cell hi hj]
      exact ⟨h6.one _ (by omega), h6.rv _ (by omega)⟩) (w1 := w) ⟨rfl, rfl, rfl, rfl⟩
  unfold Oper.wp
  have hrun : (execOp a.eval o).run P w = .ok (.value (.slice (some ⟨w.heap.size, 0, none⟩) n n)) (w.alloc (.cells us' e)) := by
    unfold execOp
    rw [ho]
    have hpa : (parts.map fun (i, x) => (i, a.eval x)).toList = parts.toList.map fun p => (p.1, a.eval p.2) := by simp
    have hns : ¬ n * esz > 2 ^ 24 := by omega
    have hzz : (if n * esz = 0 then Pure.pure #[] else do Pure.pure (← zeroValue e).cells : Sem (Array Value)).run P w = .ok (if n * esz = 0 then #[] else y.cells) w := by
      split
      · rfl
      · simp [zeroValue, typeInfo, hj1, hj4]
    by_cases hn0 : n * esz = 0
    · rw [hn0] at h5 hzz
      have h5' : Instr.fill (fun i => some (i * esz, esz)) #[] (List.map (fun x => (x.fst, a.eval x.snd)) parts.toList) = some us' := by simpa [Array.range_zero'] using h5
      simp only [Instr.buildSlice, Sem.run_bind, run_underlying h3, Result.andThen_ok, hsz', hn0, hpa]
      simp [h5', newRow, alloc_eq, Array.range_zero']
    · simp only [Instr.buildSlice, Sem.run_bind, run_underlying h3, Result.andThen_ok, hsz', hpa, if_neg hns, Sem.run_pure, hn0, if_false, zeroValue, typeInfo, hj1, hj4, run_program, h5, newRow, run_newObj, alloc_eq]
  rw [hrun]
  refine hK _ _ _ hle hr' ?_
  have := Rv.ref (G := G.add id (some w.heap.size, 0, n, esz)) id 0 n (some w.heap.size) 0 n esz (some ⟨w.heap.size, 0, none⟩) Gh.add_self (by omega) (by
      have : n * 1 ≤ n * esz := Nat.mul_le_mul_left _ hes
      omega) (fun _ => ⟨_, rfl, by simp⟩) (fun h => by cases h)
  simpa using this
end ops
end Go.Proofs.YtafikekndefjcaaDoor
/- Am8: An abstract machine for the text, part eight: append; plain lemmas over any program; no condition. -/
namespace Go.Proofs.YtafikekndefjcaaDoor
set_option linter.unusedVariables false
set_option linter.unusedSimpArgs false
set_option linter.unusedSectionVars false
open Go.RowKit

def AS.rows (σ : AS) (sz : Nat) : AV → Option (List (List AV))
  | .sl s xs => if s = sz then some xs else none
  | .ref k off n => match lk σ.objs k with
    | some ob => if ob.sz = sz ∧ off + n ≤ ob.xs.length then some ((ob.xs.drop off).take n) else none
    | none => none
  | .v (.slice none 0 0) => some []
  | .v (.slice (some _) 0 _) => some []
  | _ => none

section app
variable {P : Program} {σ : AS} {B : Base} {G : Gh} {w : World} {a : Act}

theorem R.rows (hr : R B G σ w a) {av : AV} {v : Value} (hv : Rv G av v) {sz : Nat} {ys : List (List AV)} (hz : 0 < sz) (h : σ.rows sz av = some ys) :
    ∃ ad m c, v = .slice ad m c ∧ m = ys.length ∧ (0 < m → ∃ x, ad = some x) ∧ (∀ i, i < m → (ys.getD i []).length = sz) ∧ ∃ f : Nat → Value, (∀ x q, ad = some x → q < m * sz → w.cell? (x.add q) = some (f q)) ∧
      ∀ i j, i < m → j < sz → (f (i * sz + j)).oneCell' = true ∧ Rv G ((ys.getD i []).getD j .any) (f (i * sz + j)) := by
  have hdm : ∀ i j, j < sz → (i * sz + j) / sz = i ∧ (i * sz + j) % sz = j := fun i j hj => by
    have h0 : 0 < sz := by omega
    constructor
    · rw [Nat.add_comm, Nat.add_mul_div_right _ _ h0, Nat.div_eq_of_lt hj, Nat.zero_add]
    · rw [Nat.add_comm, Nat.add_mul_mod_self_right, Nat.mod_eq_of_lt hj]
  unfold AS.rows at h
  split at h
  · rename_i s xs
    split at h
    · rename_i e; subst e
      cases h
      cases hv with
      | sl _ _ ad n c us hn hc hm h0 hz ha h1 hh =>
        subst hn
        refine ⟨ad, _, c, rfl, rfl, fun hp => let ⟨b, o, e, _⟩ := ha hp; ⟨_, e⟩, hz, fun q => us (q / s) (q % s), fun x q hx hq => ?_, fun i j hi hj => ?_⟩
        · have hsz : 0 < s := by
            rcases Nat.eq_zero_or_pos s with h | h
            · subst h; simp at hq
            · exact h
          have hxl : 0 < ys.length := by
            rcases Nat.eq_zero_or_pos ys.length with h | h
            · rw [h] at hq; simp at hq
            · exact h
          obtain ⟨b, o, e, hs⟩ := ha hxl
          rw [hx] at e
          cases e
          have hq1 : q / s < ys.length := (Nat.div_lt_iff_lt_mul hsz).2 hq
          have := hr.heap.st _ _ _ (hs (q / s) (q % s) hq1 (Nat.mod_lt _ hsz))
          rw [Addr.add_lit, ← this]
          congr 2
          have := Nat.div_add_mod q s
          rw [Nat.mul_comm] at this
          omega
        · obtain ⟨e1, e2⟩ := hdm i j hj
          simp only [e1, e2]
          exact ⟨h1 i j hi hj, hh i j hi hj⟩
    · cases h
  · rename_i k off n
    split at h
    · rename_i ob hk
      split at h
      · rename_i hc
        obtain ⟨rfl, hc⟩ := hc
        cases h
        cases hv with
        | ref _ _ _ blk base cap sz ad hl hle hm hb h0 =>
          have hlen : ((ob.xs.drop off).take n).length = n := by simp; omega
          have hob := (hr.heap.obj k ob hk).cells hz
          obtain ⟨blk', ba, ca, g1, g2, g3, g4, g5⟩ := hob
          rw [hl] at g1
          cases g1
          have hrow : ∀ i, i < n → ((ob.xs.drop off).take n).getD i [] = ob.xs.getD (off + i) [] := fun i hi => by simp [List.getD, List.getElem?_take, hi, List.getElem?_drop]
          refine ⟨ad, n, cap - off, rfl, hlen.symm, fun hp => ?_, fun i hi => by rw [hrow i hi]; exact g4 _ (by omega), fun q => (w.cell? ⟨blk.getD 0, base + off * ob.sz + q, none⟩).getD undef, fun x q hx hq => ?_, fun i j hi hj => ?_⟩
          · obtain ⟨b, _, e⟩ := hb (by omega); exact ⟨_, e⟩
          · have hn0 : 0 < n := by
              rcases Nat.eq_zero_or_pos n with h | h
              · subst h; simp at hq
              · exact h
            have hsz : 0 < ob.sz := by
              rcases Nat.eq_zero_or_pos ob.sz with h | h
              · rw [h] at hq; simp at hq
              · exact h
            obtain ⟨b, rfl, e⟩ := hb (by omega)
            rw [hx] at e
            cases e
            have hq1 : q / ob.sz < n := (Nat.div_lt_iff_lt_mul hsz).2 hq
            obtain ⟨_, u, c1, _⟩ := hr.cellsOf hk hl (e := off + q / ob.sz) (j := q % ob.sz) (by omega) (Nat.mod_lt _ hsz)
            have e2 : base + off * ob.sz + q = base + ((off + q / ob.sz) * ob.sz + q % ob.sz) := by
              have := Nat.div_add_mod q ob.sz
              rw [Nat.mul_comm] at this
              rw [Nat.add_mul]; omega
            simp only [Addr.add_lit, Option.getD_some, e2, c1]
          · obtain ⟨b, rfl, e⟩ := hb (by omega)
            obtain ⟨_, u, c1, _, c2, c3⟩ := hr.cellsOf hk hl (e := off + i) (j := j) (by omega) hj
            have e2 : base + off * ob.sz + (i * ob.sz + j) = base + ((off + i) * ob.sz + j) := by rw [Nat.add_mul]; omega
            simp only [hrow i hi, Option.getD_some, e2, c1]
            exact ⟨c2, c3⟩
      · cases h
    · cases h
  · cases h
    cases hv
    exact ⟨none, 0, 0, rfl, rfl, fun h => by omega, fun i hi => by omega, fun _ => undef, fun x q hx => (by cases hx), fun i j hi => (by omega)⟩
  · cases h
    cases hv
    exact ⟨some _, 0, _, rfl, rfl, fun h => by omega, fun i hi => by omega, fun _ => undef, fun x q hx hq => (by simp at hq), fun i j hi => (by omega)⟩
  · cases h

theorem range_get (f : Nat → Value) (n j : Nat) (u : Value) (h : ((List.range n).map f)[j]? = some u) : j < n ∧ f j = u := by
  simp only [List.getElem?_map, Option.map_eq_some_iff] at h
  obtain ⟨x, h1, h2⟩ := h
  obtain ⟨h3, h4⟩ := List.getElem?_eq_some_iff.1 h1
  simp at h3 h4
  subst h4
  exact ⟨h3, h2⟩

theorem updI_mem (k : Nat) : ∀ (u : List (Nat × Option AObj)) (ids : List Nat), k ∈ updI ids u ↔ k ∈ u.map (·.1) ∨ k ∈ ids
  | [], ids => by simp [updI]
  | (q, x) :: u, ids => by
    simp only [updI]
    rw [updI_mem k u]
    simp only [List.map_cons, List.mem_cons]
    split
    · rename_i h
      constructor
      · rintro (h1 | h1)
        · exact .inl (.inr h1)
        · exact .inr h1
      · rintro ((rfl | h1) | h1)
        · exact .inr h
        · exact .inl h1
        · exact .inr h1
    · simp only [List.mem_cons]
      constructor
      · rintro (h1 | h1 | h1)
        · exact .inl (.inr h1)
        · exact .inl (.inl h1)
        · exact .inr h1
      · rintro ((h1 | h1) | h1)
        · exact .inr (.inl h1)
        · exact .inl h1
        · exact .inr (.inr h1)
theorem R.regrow (hr : R B G σ w a) {k : Option Nat} {id : Nat} (hid : id ∉ σ.ids) (hkid : k ≠ some id) {t : TypeId} {sz cap : Nat} {xs : List (List AV)} {vs : Array Value} (h0 : 0 < sz) (hcap : xs.length ≤ cap) (hmax : cap ≤ 9223372036854775807) (hsz : cap * sz ≤ vs.size) (hlen : ∀ i, i < xs.length → (xs.getD i []).length = sz)
    (hval : ∀ i j, i < xs.length → j < sz → (vs.getD (i * sz + j) undef).oneCell' = true ∧ Rv G ((xs.getD i []).getD j .any) (vs.getD (i * sz + j) undef)) {w1 : World} (hw : w1.heap = w.heap ∧ w1.os = w.os ∧ w1.tape = w.tape ∧ w1.output = w.output) :
    G.le (G.add id (some w.heap.size, 0, cap, sz)) ∧ R B (G.add id (some w.heap.size, 0, cap, sz)) (σ.upd ((k.toList.map fun k => (k, none)) ++ [(id, some ⟨t, sz, xs⟩)])) (w1.alloc (.cells vs t)) a := by
  obtain ⟨h1, h2⟩ := hr.new (t := t) hid h0 hcap hmax hsz hlen hval hw
  refine ⟨h1, ?_⟩
  cases k with
  | none => simpa using h2
  | some k =>
    have hki : k ≠ id := fun e => hkid (by rw [e])
    refine ⟨h2.n, h2.slot, h2.defers, ?_, fun q hq => ?_⟩
    · have hh := h2.heap
      have hsub : ∀ q ob, lk (σ.upd ([(k, none)] ++ [(id, some ⟨t, sz, xs⟩)])).objs q = some ob → lk (σ.upd [(id, some ⟨t, sz, xs⟩)]).objs q = some ob := fun q ob hq => by
        simp only [AS.upd, List.singleton_append, updO, lk_st, lk_dl] at hq ⊢
        split at hq
        · rename_i e; rw [if_pos e]; exact hq
        · rename_i e
          rw [if_neg e]
          split at hq
          · cases hq
          · exact hq
      exact ⟨hh.os, hh.tape, hh.output, hh.size, hh.old, fun q ob hq => hh.obj q ob (hsub q ob hq), fun q ob hq => hh.own q ob (hsub q ob hq), fun q q' ob ob' hq hq' => hh.inj q q' ob ob' (hsub _ _ hq) (hsub _ _ hq'), hh.st, fun q ob hq => hh.sep q ob (hsub _ _ hq), hh.fresh, hh.keep, hh.fix, hh.pin, hh.base⟩
    · have := h2.ids q hq
      rw [AS.upd, updI_mem] at this ⊢
      simp at this ⊢
      rcases this with h | h
      · exact .inl (.inr h)
      · exact .inr h
end app

theorem run_append_roomAt {P : Program} (w : World) (t ty e : TypeId) (i : TypeInfo) (ht : P.underlying t = some (.slice e)) (hi : P.info? e = some i)
    (g p sLen sCap : Nat) (tb : TypeId) (cur : Array Value) (hg : w.heap[g]? = some (.cells cur tb (0, 0)))
    (ad : Option Addr) (m c : Nat) (news : List Value) (hl : news.length = m * i.size) (had : 0 < m → ∃ x, ad = some x) (hnews : ∀ x j u, ad = some x → news[j]? = some u → w.cell? (x.add j) = some u) (h1 : ∀ u ∈ news, u.oneCell' = true)
    (hroom : sLen + m ≤ sCap) (hfit : p + sLen * i.size + news.length ≤ cur.size) :
    (Builtin.append_ #[t, t] ty #[.slice (some ⟨g, p, none⟩) sLen sCap, .slice ad m c]).run P w =
      .ok (.slice (some ⟨g, p, none⟩) (sLen + m) sCap) (w.setRow g (spl cur.toList (p + sLen * i.size) news).toArray) := by
  have hst := run_storeCells_at P g (p + sLen * i.size) tb news 0 cur w hg (by simpa using hfit) h1
  simp only [Nat.add_zero] at hst
  cases ad with
  | some x =>
    have hf := run_firstCells_some (P := P) w i.size m x m c news hl (fun j u hj => hnews x j u rfl hj)
    simp [Builtin.append_, run_underlying ht, sizeOf, typeInfo, hi, Builtin.lenOf, hroom, hf, Addr.add_lit, hst, spl]
  | none =>
    have hm : m = 0 := by
      rcases Nat.eq_zero_or_pos m with h | h
      · exact h
      · obtain ⟨x, hx⟩ := had h; cases hx
    subst hm
    have hn : news = [] := List.eq_nil_of_length_eq_zero (by simpa using hl)
    subst hn
    have hf := run_firstCells_none (P := P) w i.size 0 0 c
    simp [Builtin.append_, run_underlying ht, sizeOf, typeInfo, hi, Builtin.lenOf, show sLen ≤ sCap by omega, Builtin.firstCells, Addr.add_lit, hst, spl]
theorem run_append_none {P : Program} (w : World) (t ty e : TypeId) (i : TypeInfo) (ht : P.underlying t = some (.slice e)) (hi : P.info? e = some i) (ad ad2 : Option Addr) (c2 : Nat) (had : ad2 = none ∨ True) :
    (Builtin.append_ #[t, t] ty #[.slice none 0 0, .slice ad2 0 c2]).run P w = .ok (.slice none 0 0) w := by
  cases ad2 with
  | some x => simp [Builtin.append_, run_underlying ht, sizeOf, typeInfo, hi, Builtin.lenOf, Builtin.firstCells, loadCells, loadCellsFrom]
  | none => simp [Builtin.append_, run_underlying ht, sizeOf, typeInfo, hi, Builtin.lenOf, Builtin.firstCells]
end Go.Proofs.YtafikekndefjcaaDoor
/- Am9: An abstract machine for the text, part nine: append as an operation; make; slices of slices; plain lemmas over any program; no condition. -/
namespace Go.Proofs.YtafikekndefjcaaDoor
set_option linter.unusedVariables false
set_option linter.unusedSimpArgs false
set_option linter.unusedSectionVars false
open Go.RowKit

section app
variable {P : Program} {σ : AS} {B : Base} {G : Gh} {w : World} {a : Act} {o : Oper}

theorem dm_lt {i n j sz : Nat} (hi : i < n) (hj : j < sz) : i * sz + j < n * sz := by
  have : (i + 1) * sz ≤ n * sz := Nat.mul_le_mul_right _ hi
  rw [Nat.add_mul] at this; omega
theorem dm_split {q n sz : Nat} (h : q < n * sz) : ∃ i j, i < n ∧ j < sz ∧ q = i * sz + j := by
  have hsz : 0 < sz := by
    rcases Nat.eq_zero_or_pos sz with h' | h'
    · rw [h'] at h; simp at h
    · exact h'
  refine ⟨q / sz, q % sz, (Nat.div_lt_iff_lt_mul hsz).2 h, Nat.mod_lt _ hsz, ?_⟩
  have := Nat.div_add_mod q sz
  rw [Nat.mul_comm] at this; omega
theorem map_getD (f : Nat → Value) (n q : Nat) (h : q < n) : ((List.range n).map f).getD q undef = f q := by simp [List.getD, h]

theorem R.upd_ids (hr : R B G σ w a) {G' : Gh} {id : Nat} {l : Option Nat × Nat × Nat × Nat} (hG : G' = G.add id l) (u : List (Nat × Option AObj)) (hu : id ∈ u.map (·.1)) : ∀ k, G'.loc k ≠ none → k ∈ updI σ.ids u := by
  subst hG
  intro k hk
  rw [updI_mem]
  simp only [Gh.add] at hk
  split at hk
  · rename_i e; subst e; exact .inl hu
  · exact .inr (hr.ids k hk)

theorem R.addnil (hr : R B G σ w a) {k id : Nat} (hid : id ∉ σ.ids) {t : TypeId} {sz base : Nat} (hz : 0 < sz) : G.le (G.add id (none, base, 0, sz)) ∧ R B (G.add id (none, base, 0, sz)) (σ.upd [(k, none), (id, some ⟨t, sz, []⟩)]) w a := by
  have hn := hr.fresh hid
  have hle : G.le (G.add id (none, base, 0, sz)) := Gh.add_le hn
  refine ⟨hle, hr.n, fun s av hs => ⟨(hr.slot s av hs).1, (hr.slot s av hs).2.mono hle⟩, hr.defers, ?_, hr.upd_ids rfl _ (by simp)⟩
  have hh := hr.heap
  have key : ∀ q ob, lk (σ.upd [(k, none), (id, some ⟨t, sz, []⟩)]).objs q = some ob → (q = id ∧ ob = ⟨t, sz, []⟩) ∨ (q ≠ id ∧ lk σ.objs q = some ob) := fun q ob hq => by
    simp only [AS.upd, updO, lk_st, lk_dl] at hq
    split at hq
    · rename_i e; exact .inl ⟨e.symm, by cases hq; rfl⟩
    · rename_i e
      split at hq
      · cases hq
      · exact .inr ⟨Ne.symm e, hq⟩
  have hloc : ∀ q ob b x, lk (σ.upd [(k, none), (id, some ⟨t, sz, []⟩)]).objs q = some ob → (G.add id (none, base, 0, sz)).loc q = some (some b, x) → lk σ.objs q = some ob ∧ G.loc q = some (some b, x) := fun q ob b x hq hl => by
    rcases key q ob hq with ⟨rfl, rfl⟩ | ⟨h1, h2⟩
    · rw [Gh.add_self] at hl; cases hl
    · refine ⟨h2, ?_⟩
      have : (G.add id (none, base, 0, sz)).loc q = G.loc q := if_neg h1
      rw [this] at hl; exact hl
  refine ⟨hh.os, hh.tape, hh.output, hh.size, hh.old, fun q ob hq => ?_, fun q ob hq b ba ca s hl => hh.own q ob (hloc _ _ _ _ hq hl).1 _ _ _ _ (hloc _ _ _ _ hq hl).2, fun q q' ob ob' hq hq' b x y hl hl' => hh.inj q q' ob ob' (hloc _ _ _ _ hq hl).1 (hloc _ _ _ _ hq' hl').1 b x y (hloc _ _ _ _ hq hl).2 (hloc _ _ _ _ hq' hl').2, hh.st, fun q ob hq b x hl => hh.sep q ob (hloc _ _ _ _ hq hl).1 b x (hloc _ _ _ _ hq hl).2, hh.fresh, hh.keep, fun k l hk => hle.loc _ _ (hh.fix k l hk), hh.pin, hh.base⟩
  rcases key q ob hq with ⟨rfl, rfl⟩ | ⟨h1, h2⟩
  · exact .of hz ⟨none, base, 0, Gh.add_self, by simp, by omega, fun i hi => by simp at hi, rfl⟩
  · exact (hh.obj q ob h2).mono hle fun _ _ _ _ _ => rfl

theorem R.extend (hr : R B G σ w a) {k id off n : Nat} (hid : id ∉ σ.ids) {ob : AObj} (hz : 0 < ob.sz) (hk : lk σ.objs k = some ob) {b base cap : Nat} (hl : G.loc k = some (some b, base, cap, ob.sz)) (hend : off + n = ob.xs.length) {ys : List (List AV)} {m : Nat} (hm : m = ys.length) (hroom : off + n + m ≤ cap)
    (hrow : ∀ i, i < m → (ys.getD i []).length = ob.sz) {f : Nat → Value} (hf : ∀ i j, i < m → j < ob.sz → (f (i * ob.sz + j)).oneCell' = true ∧ Rv G ((ys.getD i []).getD j .any) (f (i * ob.sz + j))) {vs : Array Value} (hvs : w.heap[b]? = some (.cells vs ob.t (0, 0))) :
    G.le (G.add id (some b, base + off * ob.sz, cap - off, ob.sz)) ∧ R B (G.add id (some b, base + off * ob.sz, cap - off, ob.sz)) (σ.upd [(k, none), (id, some ⟨ob.t, ob.sz, ob.xs.drop off ++ ys⟩)])
      (w.setRow b (spl vs.toList (base + off * ob.sz + n * ob.sz) ((List.range (m * ob.sz)).map f)).toArray) a := by
  have hn := hr.fresh hid
  have hle : G.le (G.add id (some b, base + off * ob.sz, cap - off, ob.sz)) := Gh.add_le hn
  obtain ⟨blk, ba, ca, g1, g2, g3, g4, g5⟩ := (hr.heap.obj k ob hk).cells hz
  rw [hl] at g1
  cases g1
  obtain ⟨vs', g6, g7, g8⟩ := g5
  rw [hvs] at g6
  cases g6
  have hcapm : (off + n + m) * ob.sz ≤ cap * ob.sz := Nat.mul_le_mul_right _ hroom
  rw [Nat.add_mul, Nat.add_mul] at hcapm
  have hfit : base + off * ob.sz + n * ob.sz + ((List.range (m * ob.sz)).map f).length ≤ vs.toList.length := by simp; omega
  refine ⟨hle, hr.n, fun s av hs => ⟨(hr.slot s av hs).1, (hr.slot s av hs).2.mono hle⟩, hr.defers, ?_, hr.upd_ids rfl _ (by simp)⟩
  obtain ⟨f1, f2, f3, f4, f5⟩ := setRow_frame w b (spl vs.toList (base + off * ob.sz + n * ob.sz) ((List.range (m * ob.sz)).map f)).toArray
  refine hr.heap.step f1 f2 f3 (by rw [f4]; exact Nat.le_refl _) hle rfl b id (fun q hq _ => f5 q hq) (.inr ⟨k, ob, _, hk, hl⟩) (fun q oq hq => ?_)
  simp only [AS.upd, updO, lk_st, lk_dl] at hq
  split at hq
  · rename_i e; subst e
    cases hq
    have hlen : (ob.xs.drop off ++ ys).length = n + m := by simp; omega
    have hget : ∀ i, (ob.xs.drop off ++ ys).getD i [] = if i < n then ob.xs.getD (off + i) [] else ys.getD (i - n) [] := fun i => by
      simp only [List.getD]
      split
      · rw [List.getElem?_append_left (by simp; omega), List.getElem?_drop]
      · rw [List.getElem?_append_right (by simp; omega)]; congr 2; simp; omega
    refine .inl ⟨rfl, .of hz ⟨some b, base + off * ob.sz, cap - off, Gh.add_self, by simp only [hlen]; omega, by omega, fun i hi => ?_, (spl vs.toList (base + off * ob.sz + n * ob.sz) ((List.range (m * ob.sz)).map f)).toArray, ?_, ?_, fun i c hi hc => ?_⟩, fun b' x hl' => ?_⟩
    · simp only [hlen] at hi
      rw [hget]
      split
      · exact g4 _ (by omega)
      · exact hrow _ (by omega)
    · simp [World.setRow, hvs, Array.getElem?_modify]
    · simp only [List.size_toArray, spl_len hfit, Array.length_toList]
      have : (cap - off) * ob.sz + off * ob.sz = cap * ob.sz := by rw [← Nat.add_mul]; congr 1; omega
      omega
    · simp only [hlen] at hi
      replace hc : c < ob.sz := hc
      have hg2 : (spl vs.toList (base + off * ob.sz + n * ob.sz) ((List.range (m * ob.sz)).map f)).toArray.getD (base + off * ob.sz + (i * ob.sz + c)) undef = if i < n then vs.getD (base + ((off + i) * ob.sz + c)) undef else f ((i - n) * ob.sz + c) := by
        have h1 := spl_getD hfit (base + off * ob.sz + (i * ob.sz + c)) undef
        have h2 : (spl vs.toList (base + off * ob.sz + n * ob.sz) ((List.range (m * ob.sz)).map f)).toArray.getD (base + off * ob.sz + (i * ob.sz + c)) undef = (spl vs.toList (base + off * ob.sz + n * ob.sz) ((List.range (m * ob.sz)).map f)).getD (base + off * ob.sz + (i * ob.sz + c)) undef := by simp [List.getD, Array.getD_eq_getD_getElem?]
        rw [h2, h1]
        have hll : ((List.range (m * ob.sz)).map f).length = m * ob.sz := by simp
        rw [hll]
        by_cases hin : i < n
        · have := dm_lt hin hc
          rw [if_neg (by omega), if_pos hin]
          have e : base + off * ob.sz + (i * ob.sz + c) = base + ((off + i) * ob.sz + c) := by rw [Nat.add_mul]; omega
          rw [e]; simp [List.getD, Array.getD_eq_getD_getElem?]
        · have h3 := dm_lt (show i - n < m by omega) hc
          have h4 : (i - n) * ob.sz + n * ob.sz = i * ob.sz := by rw [← Nat.add_mul]; congr 1; omega
          rw [if_pos (by omega), if_neg hin]
          have e : base + off * ob.sz + (i * ob.sz + c) - (base + off * ob.sz + n * ob.sz) = (i - n) * ob.sz + c := by omega
          rw [e, map_getD _ _ _ h3]
      simp only [hg2, hget]
      split
      · have := g8 (off + i) c (by omega) hc
        exact ⟨this.1, this.2.mono hle⟩
      · have := hf (i - n) c (by omega) hc
        exact ⟨this.1, this.2.mono hle⟩
    · rw [Gh.add_self] at hl'; cases hl'; rfl
  · rename_i e
    split at hq
    · cases hq
    · rename_i e2
      refine .inr ⟨Ne.symm e, hq, fun b' x hl' eb => e2 ?_⟩
      subst eb
      exact hr.heap.inj k q ob oq hk hq _ _ _ hl hl'

theorem run_append_zero {P : Program} (w : World) (t ty e : TypeId) (i : TypeInfo) (ht : P.underlying t = some (.slice e)) (hi : P.info? e = some i) (ad ad2 : Option Addr) (n c c2 : Nat) (hn : n ≤ c) :
    (Builtin.append_ #[t, t] ty #[.slice ad n c, .slice ad2 0 c2]).run P w = .ok (.slice ad n c) w := by
  have hf : (Builtin.firstCells i.size 0 (.slice ad2 0 c2)).run P w = .ok #[] w := by
    cases ad2 with
    | some x => simp [Builtin.firstCells, loadCells, loadCellsFrom]
    | none => simp [Builtin.firstCells]
  cases ad with
  | some x => simp [Builtin.append_, run_underlying ht, sizeOf, typeInfo, hi, Builtin.lenOf, hn, hf, storeCells]
  | none => simp [Builtin.append_, run_underlying ht, sizeOf, typeInfo, hi, Builtin.lenOf, hn, hf]

theorem maxLen_eq : maxLen = 9223372036854775807 := rfl
theorem cat_val {n m sz : Nat} {f0 f : Nat → Value} {xs ys : List (List AV)} {z : Array Value} (hn : n = xs.length) (hm : m = ys.length)
    (h0 : ∀ i j, i < n → j < sz → (f0 (i * sz + j)).oneCell' = true ∧ Rv G ((xs.getD i []).getD j .any) (f0 (i * sz + j))) (h1 : ∀ i j, i < m → j < sz → (f (i * sz + j)).oneCell' = true ∧ Rv G ((ys.getD i []).getD j .any) (f (i * sz + j))) :
    ∀ i j, i < (xs ++ ys).length → j < sz → ((((List.range (n * sz)).map f0).toArray ++ ((List.range (m * sz)).map f).toArray ++ z).getD (i * sz + j) undef).oneCell' = true ∧ Rv G (((xs ++ ys).getD i []).getD j .any) ((((List.range (n * sz)).map f0).toArray ++ ((List.range (m * sz)).map f).toArray ++ z).getD (i * sz + j) undef) := by
  intro i j hi hj
  simp only [List.length_append, ← hn, ← hm] at hi
  by_cases hin : i < n
  · have hlt := dm_lt hin hj
    have e1 : (xs ++ ys).getD i [] = xs.getD i [] := by simp only [List.getD]; rw [List.getElem?_append_left (by omega)]
    have e2 : (((List.range (n * sz)).map f0).toArray ++ ((List.range (m * sz)).map f).toArray ++ z).getD (i * sz + j) undef = f0 (i * sz + j) := by
      rw [Array.getD_eq_getD_getElem?, Array.append_assoc, Array.getElem?_append_left (by simpa using hlt)]
      simp [hlt]
    rw [e1, e2]; exact h0 i j hin hj
  · have h4 : (i - n) * sz + n * sz = i * sz := by rw [← Nat.add_mul]; congr 1; omega
    have hlt := dm_lt (show i - n < m by omega) hj
    have e1 : (xs ++ ys).getD i [] = ys.getD (i - n) [] := by simp only [List.getD]; rw [List.getElem?_append_right (by omega)]; congr 2; omega
    have e2 : (((List.range (n * sz)).map f0).toArray ++ ((List.range (m * sz)).map f).toArray ++ z).getD (i * sz + j) undef = f ((i - n) * sz + j) := by
      rw [Array.getD_eq_getD_getElem?, Array.getElem?_append_left (by simp; omega), Array.getElem?_append_right (by simp; omega)]
      have : i * sz + j - ((List.range (n * sz)).map f0).toArray.size = (i - n) * sz + j := by simp; omega
      rw [this]
      simp [hlt]
    rw [e1, e2]; exact h1 (i - n) j (by omega) hj

theorem ok_append {t : TypeId} {ti : TI} {e : TypeId} {eb : Nat} {ez : List Value} {s x : Operand} {k off n id : Nat} {ob : AObj} {av : AV} {ys : List (List AV)} (hT : TIok P t ti) (hk : ti.kind = .slice e ob.sz eb ez)
    (ho : o.op = .call { callee := .builtin .append, args := #[s, x], argTypes := #[t, t] }) (hs : σ.ev s = some (.ref k off n)) (hob : lk σ.objs k = some ob) (het : ob.t = e) (hend : off + n = ob.xs.length)
    (hx : σ.ev x = some av) (hys : σ.rows ob.sz av = some ys) (hb : (n + ys.length) * eb ≤ 140737488355328) (heb : 0 < eb) (hid : id ∉ σ.ids) :
    CoreOk P o σ (.ref id 0 (n + ys.length), [(k, none), (id, some ⟨ob.t, ob.sz, ob.xs.drop off ++ ys⟩)]) := by
  intro B G w a hr K Q hK
  obtain ⟨_, _, d, _, _, h3, _, _, _, hkk⟩ := hT.i
  rw [hk] at hkk
  obtain ⟨rfl, j, y, hj1, hj2, hj3, hj4, hj5⟩ := hkk
  obtain ⟨hezl, hezo⟩ := hT.ezero _ _ _ _ hk
  subst het
  have hz : 0 < ob.sz := hT.epos _ _ _ _ hk
  obtain ⟨ad2, m, c2, hxv, hm, had2, hrow, f, hf1, hf2⟩ := hr.rows (hr.ev hx) hz hys
  have hold : σ.rows ob.sz (.ref k off n) = some (ob.xs.drop off) := by
    simp only [AS.rows, hob]
    rw [if_pos ⟨trivial, by omega⟩, List.take_of_length_le (by simp; omega)]
  obtain ⟨ad, n', c, hsv, hn', had, hrow0, f0, hf01, hf02⟩ := hr.rows (hr.ev hs) hz hold
  have hnn : n' = n := by rw [hn']; simp; omega
  subst hnn
  subst hm
  have hsz : ∀ w, (sizeOf ob.t).run P w = .ok ob.sz w := fun w => size_of_info hj1 hj2
  have hneed : n' + ys.length ≤ 140737488355328 := by
    have : (n' + ys.length) * 1 ≤ (n' + ys.length) * eb := Nat.mul_le_mul_left _ heb
    omega
  have hrv := hr.ev hs
  rw [hsv] at hrv
  have hkid : k ≠ id := fun e => hid (by
    rw [← e]
    apply hr.ids
    cases hrv with
    | ref _ _ _ blk base cap sz _ hl => rw [hl]; simp)
  -- what the operation is
  have hop : ∀ v w', (Builtin.append_ #[t, t] o.type #[.slice ad n' c, .slice ad2 ys.length c2]).run P w = .ok v w' → (execOp a.eval o).run P w = .ok (.value v) w' := fun v w' h => by
    unfold execOp
    rw [ho]
    simp [resolve, invoke, builtin, hsv, hxv, h]
  unfold Oper.wp
  have hnews : ∀ x j u, ad2 = some x → ((List.range (ys.length * ob.sz)).map f)[j]? = some u → w.cell? (x.add j) = some u := fun x j u hx hu => by
    obtain ⟨h1, h2⟩ := range_get _ _ _ _ hu
    rw [hf1 x j hx h1, h2]
  have hone : ∀ u ∈ (List.range (ys.length * ob.sz)).map f, u.oneCell' = true := fun u hu => by
    simp only [List.mem_map, List.mem_range] at hu
    obtain ⟨q, hq, rfl⟩ := hu
    obtain ⟨i, c, hi, hc, rfl⟩ := dm_split hq
    exact (hf2 i c hi hc).1
  cases hrv with
  | ref _ _ _ blk base cap sz _ hl hle hcm hb' h0 =>
    obtain ⟨blk', ba, ca, g1, g2, g3, g4, g5⟩ := (hr.heap.obj k ob hob).cells hz
    rw [hl] at g1
    cases g1
    by_cases hroom : n' + ys.length ≤ cap - off
    · cases blk with
      | none =>
        have hc0 : cap = 0 := g5
        have hy0 : ys.length = 0 := by omega
        have hn0 : n' = 0 := by omega
        have hys0 : ys = [] := List.eq_nil_of_length_eq_zero hy0
        subst hys0
        have hd0 : ob.xs.drop off = [] := by rw [List.drop_eq_nil_iff]; omega
        obtain ⟨r1, r2⟩ := hr.addnil (k := k) hid (t := ob.t) (sz := ob.sz) (base := base) hz
        rw [hop _ _ (run_append_zero w t o.type ob.t j h3 hj1 ad ad2 n' (cap - off) c2 (by omega))]
        rw [hd0] at hK
        refine hK _ _ _ r1 r2 ?_
        subst hn0
        have := Rv.ref (G := G.add id (none, base, 0, ob.sz)) id 0 0 none base 0 ob.sz ad Gh.add_self (by omega) (by omega) (fun h => by omega) (fun _ => rfl)
        simpa [show cap - off = 0 by omega] using this
      | some b =>
        obtain ⟨vs, g6, g7, g8⟩ := g5
        have hcapm : (off + n' + ys.length) * ob.sz ≤ cap * ob.sz := Nat.mul_le_mul_right _ (by omega)
        rw [Nat.add_mul, Nat.add_mul] at hcapm
        by_cases hlt : off < cap
        · obtain ⟨b', e1, rfl⟩ := hb' hlt
          cases e1
          obtain ⟨r1, r2⟩ := hr.extend hid hz hob hl hend (m := ys.length) rfl (by omega) hrow hf2 g6
          rw [hop _ _ (run_append_roomAt (P := P) w t o.type ob.t j h3 hj1 b (base + off * ob.sz) n' (cap - off) ob.t vs g6 ad2 ys.length c2 ((List.range (ys.length * ob.sz)).map f) (by simp [hj2]) had2 hnews hone hroom (by rw [hj2]; simp; omega))]
          rw [hj2]
          refine hK _ _ _ r1 r2 ?_
          have := Rv.ref (G := G.add id (some b, base + off * ob.sz, cap - off, ob.sz)) id 0 (n' + ys.length) (some b) (base + off * ob.sz) (cap - off) ob.sz (some ⟨b, base + off * ob.sz, none⟩) Gh.add_self (by omega) (by omega) (fun _ => ⟨_, rfl, by simp⟩) (fun h => by cases h)
          simpa using this
        · have hy0 : ys.length = 0 := by omega
          have hys0 : ys = [] := List.eq_nil_of_length_eq_zero hy0
          have hn0 : n' = 0 := by omega
          subst hys0
          obtain ⟨r1, r2⟩ := hr.extend hid hz hob hl hend (m := 0) (ys := []) rfl (by omega) (fun i hi => by omega) (f := f) (fun i j hi => by omega) g6
          rw [hop _ _ (run_append_zero w t o.type ob.t j h3 hj1 ad ad2 n' (cap - off) c2 (by omega))]
          have hw : w.setRow b (spl vs.toList (base + off * ob.sz + n' * ob.sz) ((List.range (0 * ob.sz)).map f)).toArray = w := by
            simp only [Nat.zero_mul, List.range_zero, List.map_nil, spl, List.length_nil, Nat.add_zero, List.append_nil, List.take_append_drop]
            exact setRow_self w b vs ob.t (0, 0) g6
          rw [hw] at r2
          refine hK _ _ _ r1 r2 ?_
          subst hn0
          have := Rv.ref (G := G.add id (some b, base + off * ob.sz, cap - off, ob.sz)) id 0 0 (some b) (base + off * ob.sz) (cap - off) ob.sz ad Gh.add_self (by omega) (by omega) (fun h => by omega) (fun _ => by omega)
          simpa [show cap - off = 0 by omega] using this
    · have hypos : 0 < ys.length := by omega
      obtain ⟨x2, hx2⟩ := had2 hypos
      subst hx2
      have hlen : (ob.xs.drop off ++ ys).length = n' + ys.length := by rw [List.length_append, ← hn']
      have hrows : ∀ i, i < (ob.xs.drop off ++ ys).length → ((ob.xs.drop off ++ ys).getD i []).length = ob.sz := fun i hi => by
        rw [hlen] at hi
        by_cases hin : i < n'
        · have e1 : (ob.xs.drop off ++ ys).getD i [] = (ob.xs.drop off).getD i [] := by simp only [List.getD]; rw [List.getElem?_append_left (by omega)]
          rw [e1]; exact hrow0 i hin
        · have e1 : (ob.xs.drop off ++ ys).getD i [] = ys.getD (i - n') [] := by simp only [List.getD]; rw [List.getElem?_append_right (by omega)]; congr 2; omega
          rw [e1]; exact hrow _ (by omega)
      have hbj : (n' + ys.length) * j.bytes ≤ 140737488355328 := by rw [hj3]; exact hb
      have hcapg : ∀ old, grownCap w (n' + ys.length) old ob.t ≤ 9223372036854775807 := fun old => by
        have := grownCap_le_maxLen w (n' + ys.length) old ob.t (by rw [maxLen_eq]; omega)
        rw [maxLen_eq] at this; exact this
      have hge : ∀ old, n' + ys.length ≤ grownCap w (n' + ys.length) old ob.t := fun old => grownCap_ge w _ old ob.t
      have hzs : ∀ q, (Builtin.zeroCells y.cells q).size = q * ob.sz := fun q => by rw [size_zeroCells]; congr 1; rw [← hezl, ← hj5]; simp
      cases ad with
      | none =>
        have hcap0 : cap = off := h0 rfl
        have hn0 : n' = 0 := by omega
        subst hn0
        have e0 : cap - off = 0 := by omega
        rw [e0] at hop
        obtain ⟨r1, r2⟩ := hr.regrow (k := some k) (id := id) hid (fun e => hkid (by cases e; rfl)) (t := ob.t) (sz := ob.sz) (cap := grownCap w ys.length 0 ob.t) (xs := ob.xs.drop off ++ ys) (vs := ((List.range (0 * ob.sz)).map f0).toArray ++ ((List.range (ys.length * ob.sz)).map f).toArray ++ Builtin.zeroCells y.cells (grownCap w ys.length 0 ob.t - ys.length))
          hz (by rw [hlen]; have := hge 0; simpa using this) (by have := hcapg 0; simpa using this) (by
            have h1 := hge 0
            simp only [Nat.zero_add] at h1
            simp [hzs]
            rw [← Nat.add_mul]; exact Nat.mul_le_mul_right _ (by omega)) hrows (cat_val hn' rfl hf02 hf2) (w1 := w.drew) ⟨rfl, rfl, rfl, rfl⟩
        have hrun := run_append_nil (P := P) w t o.type ob.t j y h3 hj1 hj4 x2 ys.length c2 ((List.range (ys.length * ob.sz)).map f) (by simp [hj2]) (fun q u hq => hnews x2 q u rfl hq) hypos (by omega) (by simp only [Nat.zero_add] at hbj; omega)
        rw [hop _ _ hrun]
        rw [show ((List.range (0 * ob.sz)).map f0).toArray = #[] by simp, Array.empty_append] at r2
        refine hK _ _ _ r1 r2 ?_
        have hg2 := hge 0
        simp only [Nat.zero_add] at hg2
        have := Rv.ref (G := G.add id (some w.heap.size, 0, grownCap w ys.length 0 ob.t, ob.sz)) id 0 ys.length (some w.heap.size) 0 (grownCap w ys.length 0 ob.t) ob.sz (some ⟨w.heap.size, 0, none⟩) Gh.add_self (by omega) (by have := hcapg 0; simpa using this) (fun _ => ⟨_, rfl, by simp⟩) (fun h => by cases h)
        simpa using this
      | some x1 =>
        obtain ⟨r1, r2⟩ := hr.regrow (k := some k) (id := id) hid (fun e => hkid (by cases e; rfl)) (t := ob.t) (sz := ob.sz) (cap := grownCap w (n' + ys.length) (cap - off) ob.t) (xs := ob.xs.drop off ++ ys) (vs := ((List.range (n' * ob.sz)).map f0).toArray ++ ((List.range (ys.length * ob.sz)).map f).toArray ++ Builtin.zeroCells y.cells (grownCap w (n' + ys.length) (cap - off) ob.t - (n' + ys.length)))
          hz (by rw [hlen]; exact hge _) (hcapg _) (by
            have h1 := hge (cap - off)
            simp [hzs]
            rw [← Nat.add_mul, ← Nat.add_mul]; exact Nat.mul_le_mul_right _ (by omega)) hrows (cat_val hn' rfl hf02 hf2) (w1 := w.drew) ⟨rfl, rfl, rfl, rfl⟩
        have hrun := run_append_grow (P := P) w t o.type ob.t j y h3 hj1 hj4 x1 n' (cap - off) ((List.range (n' * ob.sz)).map f0) (by simp [hj2]) (fun q u hq => by
            obtain ⟨h1, h2⟩ := range_get _ _ _ _ hq
            rw [hf01 x1 q rfl h1, h2]) x2 ys.length c2 ((List.range (ys.length * ob.sz)).map f) (by simp [hj2]) (fun q u hq => hnews x2 q u rfl hq) (by omega) (by omega) (growslice_fits (by omega) hbj)
        rw [hop _ _ hrun]
        refine hK _ _ _ r1 r2 ?_
        have := Rv.ref (G := G.add id (some w.heap.size, 0, grownCap w (n' + ys.length) (cap - off) ob.t, ob.sz)) id 0 (n' + ys.length) (some w.heap.size) 0 (grownCap w (n' + ys.length) (cap - off) ob.t) ob.sz (some ⟨w.heap.size, 0, none⟩) Gh.add_self (by have := hge (cap - off); omega) (hcapg _) (fun _ => ⟨_, rfl, by simp⟩) (fun h => by cases h)
        simpa using this
end app
end Go.Proofs.YtafikekndefjcaaDoor
/- Am10: An abstract machine for the text, part ten: what is let go stays; functions that only compute; plain lemmas over any program; no condition. -/
namespace Go.Proofs.YtafikekndefjcaaDoor
set_option linter.unusedVariables false
set_option linter.unusedSimpArgs false
set_option linter.unusedSectionVars false
open Go.RowKit

def AS.shut1 (σ : AS) (D : Nat → Bool) : AV → Option AV
  | .ref k off n => match lk σ.objs k with
    | some ob => if D k = true ∧ 0 < ob.sz ∧ off + n ≤ ob.xs.length ∧ idsLL ((ob.xs.drop off).take n) = [] then some (.sl ob.sz ((ob.xs.drop off).take n)) else none
    | none => none
  | av => if av.ids = [] then some av else none
def AS.shutL (σ : AS) (D : Nat → Bool) : List AV → Option (List AV)
  | [] => some []
  | c :: cs => match σ.shut1 D c, σ.shutL D cs with
    | some d, some ds => some (d :: ds)
    | _, _ => none
def AS.shut2 (σ : AS) (D : Nat → Bool) : AV → Option AV
  | .agg cs => (σ.shutL D cs).map .agg
  | av => σ.shut1 D av
def AS.shutM (σ : AS) (D : Nat → Bool) : List AV → Option (List AV)
  | [] => some []
  | c :: cs => match σ.shut2 D c, σ.shutM D cs with
    | some d, some ds => some (d :: ds)
    | _, _ => none
def AS.shut (σ : AS) (D : Nat → Bool) : AV → Option AV
  | .tup cs => (σ.shutM D cs).map .tup
  | av => σ.shut2 D av

section frz
variable {P : Program} {σ : AS} {B : Base} {G : Gh} {w : World} {a : Act}

def frzB (G : Gh) (σ : AS) (D : Nat → Bool) (b : Nat) : Bool := σ.objs.any fun p => D p.1 && match G.loc p.1 with
  | some (some b', _) => b' == b
  | _ => false
theorem lk_mem {α : Type} : ∀ {l : List (Nat × α)} {k : Nat} {x : α}, (k, x) ∈ l → ∃ y, lk l k = some y
  | (e, u) :: r, k, x, h => by
    by_cases he : e = k
    · exact ⟨u, by simp [lk, he]⟩
    · simp only [List.mem_cons, Prod.mk.injEq] at h
      rcases h with h | h
      · exact absurd h.1.symm he
      · obtain ⟨y, hy⟩ := lk_mem h
        exact ⟨y, by simp [lk, he, hy]⟩
theorem mem_lk {α : Type} : ∀ {l : List (Nat × α)} {k : Nat} {x : α}, lk l k = some x → (k, x) ∈ l
  | (e, u) :: r, k, x, h => by
    simp only [lk] at h
    split at h
    · rename_i he; subst he; cases h; exact List.mem_cons_self
    · exact List.mem_cons_of_mem _ (mem_lk h)
theorem frzB_iff {G : Gh} {σ : AS} {D : Nat → Bool} {b : Nat} : frzB G σ D b = true ↔ ∃ k ob x, D k = true ∧ lk σ.objs k = some ob ∧ G.loc k = some (some b, x) := by
  unfold frzB
  rw [List.any_eq_true]
  constructor
  · rintro ⟨⟨k, ob⟩, h1, h2⟩
    simp only [Bool.and_eq_true] at h2
    obtain ⟨h2, h3⟩ := h2
    obtain ⟨y, hy⟩ := lk_mem h1
    split at h3
    · rename_i b' x hl
      obtain rfl : b' = b := by simpa using h3
      exact ⟨k, y, x, h2, hy, hl⟩
    · cases h3
  · rintro ⟨k, ob, x, h1, h2, h3⟩
    exact ⟨(k, ob), mem_lk h2, by simp [h1, h3]⟩
def Gh.frz (G : Gh) (σ : AS) (D : Nat → Bool) (w : World) : Gh where
  S b p := if frzB G σ D b = true then w.cell? ⟨b, p, none⟩ else G.S b p
  loc := G.loc
theorem frz_le (hr : R B G σ w a) (D : Nat → Bool) : G.le (G.frz σ D w) := by
  refine ⟨fun b o u hs => ?_, fun k l h => h⟩
  simp only [Gh.frz]
  split
  · rename_i h
    obtain ⟨k, ob, x, _, h2, h3⟩ := frzB_iff.1 h
    rw [hr.heap.sep k ob h2 _ _ h3] at hs; cases hs
  · exact hs
theorem frz_in {D : Nat → Bool} {b p k : Nat} {ob : AObj} {x : Nat × Nat × Nat} (hD : D k = true) (hk : lk σ.objs k = some ob) (hl : G.loc k = some (some b, x)) : (G.frz σ D w).S b p = w.cell? ⟨b, p, none⟩ := by
  simp only [Gh.frz]
  rw [if_pos (frzB_iff.2 ⟨k, ob, x, hD, hk, hl⟩)]

theorem R.freeze (hr : R B G σ w a) (D : Nat → Bool) (objs' : List (Nat × AObj)) (hobj : ∀ k ob, lk objs' k = some ob → lk σ.objs k = some ob ∧ D k = false) : R B (G.frz σ D w) { σ with objs := objs' } w a := by
  have hle := frz_le hr D
  have hh := hr.heap
  refine ⟨hr.n, fun s av hs => ⟨(hr.slot s av hs).1, (hr.slot s av hs).2.mono hle⟩, hr.defers, ?_, hr.ids⟩
  have hS : ∀ b o u, (G.frz σ D w).S b o = some u → w.cell? ⟨b, o, none⟩ = some u ∧ (G.S b o = some u ∨ ∃ k ob x, D k = true ∧ lk σ.objs k = some ob ∧ G.loc k = some (some b, x)) := fun b o u hs => by
    simp only [Gh.frz] at hs
    split at hs
    · rename_i h; exact ⟨hs, .inr (frzB_iff.1 h)⟩
    · exact ⟨hh.st _ _ _ hs, .inl hs⟩
  refine ⟨hh.os, hh.tape, hh.output, hh.size, hh.old, fun k ob hk => (hh.obj k ob (hobj k ob hk).1).mono hle fun _ _ _ _ _ => rfl, fun k ob hk => hh.own k ob (hobj k ob hk).1, fun k k' ob ob' hk hk' => hh.inj k k' ob ob' (hobj _ _ hk).1 (hobj _ _ hk').1, fun b o u hs => (hS b o u hs).1, fun k ob hk b x hl p => ?_, fun b o u hs => ?_, fun b o u hs => hle.S _ _ _ (hh.keep b o u hs), hh.fix, hh.pin, hh.base⟩
  · cases hs : (G.frz σ D w).S b p with
    | none => rfl
    | some u =>
      exfalso
      obtain ⟨h1, h2 | ⟨k', ob', y, h2, h3, h4⟩⟩ := hS b p u hs
      · rw [hh.sep k ob (hobj k ob hk).1 _ _ hl] at h2; cases h2
      · have := hh.inj k k' ob ob' (hobj k ob hk).1 h3 _ _ _ hl h4
        rw [this] at hk
        have := (hobj _ _ hk).2
        rw [h2] at this; cases this
  · obtain ⟨h1, h2 | ⟨k', ob', y, h2, h3, h4⟩⟩ := hS b o u hs
    · exact hh.fresh b o u h2
    · exact .inr (hh.own k' ob' h3 _ _ _ _ h4)

theorem shut1_ok (hr : R B G σ w a) {D : Nat → Bool} {T : Nat → Nat → Option Value} (hT : ∀ b o u, G.S b o = some u → T b o = some u) (hD : ∀ k ob b x p u, D k = true → lk σ.objs k = some ob → G.loc k = some (some b, x) → w.cell? ⟨b, p, none⟩ = some u → T b p = some u) {L : Nat → Option (Option Nat × Nat × Nat × Nat)} {av av' : AV} {v : Value} (hv : Rv G av v) (h : σ.shut1 D av = some av') : Rv ⟨T, L⟩ av' v := by
  by_cases hre : ∃ k off n, av = .ref k off n
  · obtain ⟨k, off, n, rfl⟩ := hre
    simp only [AS.shut1] at h
    split at h
    · rename_i ob hk
      split at h
      · rename_i hc
        obtain ⟨hd, hz, hle, hids⟩ := hc
        cases h
        cases hv with
        | ref _ _ _ blk base cap sz ad hl hle2 hm hb h0 =>
          obtain ⟨blk', ba, ca, g1, g2, g3, g4, g5⟩ := (hr.heap.obj k ob hk).cells hz
          rw [hl] at g1
          cases g1
          have hlen : ((ob.xs.drop off).take n).length = n := by simp; omega
          have hrow : ∀ i, i < n → ((ob.xs.drop off).take n).getD i [] = ob.xs.getD (off + i) [] := fun i hi => by simp [List.getD, List.getElem?_take, hi, List.getElem?_drop]
          have hpure : ∀ i j, i < n → j < ob.sz → ((ob.xs.getD (off + i) []).getD j .any).ids = [] := fun i j hi hj => by
            rw [← hrow i hi]
            refine List.eq_nil_iff_forall_not_mem.2 fun q hq => ?_
            have := idsLL_mem (xs := (ob.xs.drop off).take n) (i := i) (by omega) (idsL_mem (by rw [hrow i hi, g4 _ (by omega)]; exact hj) hq)
            rw [hids] at this; cases this
          refine .sl _ _ ad n (cap - off) (fun i j => (w.cell? ⟨blk.getD 0, base + ((off + i) * ob.sz + j), none⟩).getD undef) hlen.symm (by omega) (by unfold AMax; omega) (fun e => by have := h0 e; omega) (fun i hi => ?_) (fun hp => ?_) (fun i j hi hj => ?_) (fun i j hi hj => ?_)
          · rw [hlen] at hi; rw [hrow i hi]; exact g4 _ (by omega)
          · rw [hlen] at hp
            obtain ⟨b, rfl, rfl⟩ := hb (by omega)
            refine ⟨b, base + off * ob.sz, rfl, fun i j hi hj => ?_⟩
            rw [hlen] at hi
            obtain ⟨_, u, c1, _, c2, c3⟩ := hr.cellsOf hk hl (e := off + i) (j := j) (by omega) hj
            have e2 : base + off * ob.sz + i * ob.sz + j = base + ((off + i) * ob.sz + j) := by rw [Nat.add_mul]; omega
            rw [e2]
            simp only [Option.getD_some, c1]
            exact hD k ob b _ _ _ hd hk hl c1
          · rw [hlen] at hi
            obtain ⟨b, rfl, _⟩ := hb (by omega)
            obtain ⟨_, u, c1, _, c2, c3⟩ := hr.cellsOf hk hl (e := off + i) (j := j) (by omega) hj
            simp only [Option.getD_some, c1]; exact c2
          · rw [hlen] at hi
            obtain ⟨b, rfl, _⟩ := hb (by omega)
            obtain ⟨_, u, c1, _, c2, c3⟩ := hr.cellsOf hk hl (e := off + i) (j := j) (by omega) hj
            rw [hrow i hi]
            simp only [Option.getD_some, c1]
            exact c3.pure hT (hpure i j hi hj)
      · cases h
    · cases h
  · have h' : (if av.ids = [] then some av else none) = some av' := by
      cases av <;> first | exact h | exact absurd ⟨_, _, _, rfl⟩ hre
    split at h'
    · rename_i hp; cases h'; exact hv.pure hT hp
    · cases h'
theorem shutL_ok (hr : R B G σ w a) {D : Nat → Bool} {T : Nat → Nat → Option Value} (hT : ∀ b o u, G.S b o = some u → T b o = some u) (hD : ∀ k ob b x p u, D k = true → lk σ.objs k = some ob → G.loc k = some (some b, x) → w.cell? ⟨b, p, none⟩ = some u → T b p = some u) {L : Nat → Option (Option Nat × Nat × Nat × Nat)} :
    ∀ {cs ds : List AV} (f : Nat → Value), (∀ i, i < cs.length → Rv G (cs.getD i .any) (f i)) → σ.shutL D cs = some ds → ds.length = cs.length ∧ ∀ i, i < cs.length → Rv ⟨T, L⟩ (ds.getD i .any) (f i)
  | [], ds, f, _, h => by simp only [AS.shutL, Option.some.injEq] at h; subst h; exact ⟨rfl, fun i hi => by simp at hi⟩
  | c :: cs, ds, f, hf, h => by
    simp only [AS.shutL] at h
    split at h
    · rename_i d ds' h1 h2
      cases h
      obtain ⟨h3, h4⟩ := shutL_ok hr hT hD (L := L) (fun i => f (i + 1)) (fun i hi => by simpa using hf (i + 1) (by simpa using hi)) h2
      refine ⟨by simp [h3], fun i hi => ?_⟩
      cases i with
      | zero => simpa using shut1_ok hr hT hD (L := L) (hf 0 (by simp)) h1
      | succ i => simpa using h4 i (by simpa using hi)
    · cases h
theorem shut2_ok (hr : R B G σ w a) {D : Nat → Bool} {T : Nat → Nat → Option Value} (hT : ∀ b o u, G.S b o = some u → T b o = some u) (hD : ∀ k ob b x p u, D k = true → lk σ.objs k = some ob → G.loc k = some (some b, x) → w.cell? ⟨b, p, none⟩ = some u → T b p = some u) {L : Nat → Option (Option Nat × Nat × Nat × Nat)} {av av' : AV} {v : Value} (hv : Rv G av v) (h : σ.shut2 D av = some av') : Rv ⟨T, L⟩ av' v := by
  by_cases hre : ∃ cs, av = .agg cs
  · obtain ⟨cs, rfl⟩ := hre
    simp only [AS.shut2, Option.map_eq_some_iff] at h
    obtain ⟨ds, h1, rfl⟩ := h
    obtain ⟨arr, rfl, hl, hone, hcs⟩ := hv.agg_inv
    obtain ⟨h3, h4⟩ := shutL_ok hr hT hD (L := L) (fun i => arr.getD i undef) hcs h1
    exact Rv.agg' (by omega) hone (fun i hi => h4 i (by omega))
  · have h' : σ.shut1 D av = some av' := by
      cases av <;> first | exact h | exact absurd ⟨_, rfl⟩ hre
    exact shut1_ok hr hT hD hv h'
theorem shutM_ok (hr : R B G σ w a) {D : Nat → Bool} {T : Nat → Nat → Option Value} (hT : ∀ b o u, G.S b o = some u → T b o = some u) (hD : ∀ k ob b x p u, D k = true → lk σ.objs k = some ob → G.loc k = some (some b, x) → w.cell? ⟨b, p, none⟩ = some u → T b p = some u) {L : Nat → Option (Option Nat × Nat × Nat × Nat)} :
    ∀ {cs ds : List AV} (f : Nat → Value), (∀ i, i < cs.length → Rv G (cs.getD i .any) (f i)) → σ.shutM D cs = some ds → ds.length = cs.length ∧ ∀ i, i < cs.length → Rv ⟨T, L⟩ (ds.getD i .any) (f i)
  | [], ds, f, _, h => by simp only [AS.shutM, Option.some.injEq] at h; subst h; exact ⟨rfl, fun i hi => by simp at hi⟩
  | c :: cs, ds, f, hf, h => by
    simp only [AS.shutM] at h
    split at h
    · rename_i d ds' h1 h2
      cases h
      obtain ⟨h3, h4⟩ := shutM_ok hr hT hD (L := L) (fun i => f (i + 1)) (fun i hi => by simpa using hf (i + 1) (by simpa using hi)) h2
      refine ⟨by simp [h3], fun i hi => ?_⟩
      cases i with
      | zero => simpa using shut2_ok hr hT hD (L := L) (hf 0 (by simp)) h1
      | succ i => simpa using h4 i (by simpa using hi)
    · cases h
theorem shut_ok (hr : R B G σ w a) {D : Nat → Bool} {T : Nat → Nat → Option Value} (hT : ∀ b o u, G.S b o = some u → T b o = some u) (hD : ∀ k ob b x p u, D k = true → lk σ.objs k = some ob → G.loc k = some (some b, x) → w.cell? ⟨b, p, none⟩ = some u → T b p = some u) {L : Nat → Option (Option Nat × Nat × Nat × Nat)} {av av' : AV} {v : Value} (hv : Rv G av v) (h : σ.shut D av = some av') : Rv ⟨T, L⟩ av' v := by
  by_cases hre : ∃ cs, av = .tup cs
  · obtain ⟨cs, rfl⟩ := hre
    simp only [AS.shut, Option.map_eq_some_iff] at h
    obtain ⟨ds, h1, rfl⟩ := h
    cases hv with
    | tup _ us hl hcs =>
      obtain ⟨h3, h4⟩ := shutM_ok hr hT hD (L := L) (fun i => us.getD i undef) hcs h1
      exact .tup ds us (by omega) (fun i hi => h4 i (by omega))
  · have h' : σ.shut2 D av = some av' := by
      cases av <;> first | exact h | exact absurd ⟨_, rfl⟩ hre
    exact shut2_ok hr hT hD hv h'
end frz

/-! ### Functions that only compute -/
def G0 (S : Nat → Nat → Option Value) : Gh := ⟨S, fun _ => none⟩
def StC (S : Nat → Nat → Option Value) (w : World) : Prop := ∀ b o u, S b o = some u → w.cell? ⟨b, o, none⟩ = some u
def StOk (S : Nat → Nat → Option Value) (w : World) : Prop := StC S w ∧ GlobIn S
theorem RH.glob {B : Base} {G : Gh} {H : Nat → Option AObj} {w : World} (h : RH B G H w) : GlobIn G.S := fun g l hg => ⟨fun j hj => h.keep _ _ _ ((h.base.2.2 g l hg).1 j hj), (h.base.2.2 g l hg).2⟩
theorem RH.stOk {B : Base} {G : Gh} {H : Nat → Option AObj} {w : World} (h : RH B G H w) : StOk G.S w := ⟨h.st, h.glob⟩
theorem RH.allOk {B : Base} {G : Gh} {H : Nat → Option AObj} {w : World} (h : RH B G H w) : StOk (fun b p => w.cell? ⟨b, p, none⟩) w := ⟨fun _ _ _ h => h, fun g l hg => ⟨fun j hj => h.st _ _ _ ((h.glob g l hg).1 j hj), (h.glob g l hg).2⟩⟩
def Left1 (S : Nat → Nat → Option Value) (w : World) (res : AV) (e : Ending) (w' : World) : Prop :=
  ∃ v S', e = .returned v ∧ Below w.heap.size w w' ∧ (∀ b o u, S b o = some u → S' b o = some u) ∧ StC S' w' ∧ (∀ b o u, S' b o = some u → S b o = some u ∨ w.heap.size ≤ b) ∧ Rv (G0 S') res v
def FnPure (P : Program) (f : FuncId) (args : List AV) (res : AV) : Prop :=
  ∀ (S : Nat → Nat → Option Value) (w : World) (vs : Array Value), StOk S w → vs.size = args.length → (∀ i, i < args.length → Rv (G0 S) (args.getD i .any) (vs.getD i undef)) → Calls P f vs w (Left1 S w res)

def newS (S : Nat → Nat → Option Value) (B : Nat) : Nat → Nat → Option Value := fun b o => if b < B then none else S b o
def LeftF (w : World) (res : AV) (e : Ending) (w' : World) : Prop :=
  ∃ v, e = .returned v ∧ Below w.heap.size w w' ∧ Rv (G0 (newS (fun b o => w'.cell? ⟨b, o, none⟩) w.heap.size)) res v
def FnFresh (P : Program) (f : FuncId) (args : List AV) (res : AV) : Prop :=
  ∀ (S : Nat → Nat → Option Value) (w : World) (vs : Array Value), StOk S w → vs.size = args.length → (∀ i, i < args.length → Rv (G0 S) (args.getD i .any) (vs.getD i undef)) → Calls P f vs w (LeftF w res)
theorem FnFresh.pure {P : Program} {f : FuncId} {args : List AV} {res : AV} (h : FnFresh P f args res) : FnPure P f args res := fun S w vs hS hn hv =>
  (h S w vs hS hn hv).mono fun e w' hl => by
    obtain ⟨v, rfl, hb, hr⟩ := hl
    refine ⟨v, fun b o => if b < w.heap.size then S b o else w'.cell? ⟨b, o, none⟩, rfl, hb, fun b o u hs => ?_, fun b o u hs => ?_, fun b o u hs => ?_, Rv.mono (G := G0 (newS (fun b o => w'.cell? ⟨b, o, none⟩) w.heap.size)) (G' := G0 (fun b o => if b < w.heap.size then S b o else w'.cell? ⟨b, o, none⟩)) ⟨fun b o u hs => ?_, fun _ _ h => h⟩ hr⟩
    · have := World.block_lt_of_cell? _ _ (hS.1 b o u hs)
      show (if b < w.heap.size then _ else _) = _
      rw [if_pos this]; exact hs
    · simp only at hs
      split at hs
      · rename_i hlt; exact (hb.cell hlt).trans (hS.1 b o u hs)
      · exact hs
    · simp only at hs
      split at hs
      · exact .inl hs
      · exact .inr (by omega)
    · simp only [G0, newS] at hs ⊢
      split at hs
      · cases hs
      · rename_i h; rw [if_neg h]; exact hs
def AV.isV : AV → Bool
  | .v _ => true
  | _ => false
def AV.scalar1 : AV → Bool
  | .v _ => true
  | .agg cs => cs.all AV.isV
  | _ => false
def AV.scalar : AV → Bool
  | .tup cs => cs.all AV.scalar1
  | a => a.scalar1
theorem Rv.isV {G G' : Gh} {a : AV} {v : Value} (h : Rv G a v) (hs : a.isV = true) : Rv G' a v := by
  cases h <;> first | exact .v _ | (simp [AV.isV] at hs)
theorem Rv.scalar1 {G G' : Gh} {a : AV} {v : Value} (h : Rv G a v) (hs : a.scalar1 = true) : Rv G' a v := by
  by_cases hg : ∃ cs, a = .agg cs
  · obtain ⟨cs, rfl⟩ := hg
    obtain ⟨arr, rfl, hl, h1, h2⟩ := h.agg_inv
    refine Rv.agg' hl h1 fun i hi => (h2 i hi).isV ?_
    have := List.all_eq_true.1 hs (cs.getD i .any) (by simp [List.getD, hi])
    exact this
  · refine h.isV (G' := G') ?_
    cases a <;> first | exact hs | exact absurd ⟨_, rfl⟩ hg
theorem Rv.scalar {G G' : Gh} {a : AV} {v : Value} (h : Rv G a v) (hs : a.scalar = true) : Rv G' a v := by
  by_cases hg : ∃ cs, a = .tup cs
  · obtain ⟨cs, rfl⟩ := hg
    cases h with
    | tup _ us hl h2 =>
      refine .tup cs us hl fun i hi => (h2 i hi).scalar1 ?_
      exact List.all_eq_true.1 hs (cs.getD i .any) (by simp [List.getD, hi])
  · refine h.scalar1 (G' := G') ?_
    cases a <;> first | exact hs | exact absurd ⟨_, rfl⟩ hg

section calls
variable {P : Program} {σ : AS} {B : Base} {G : Gh} {w : World} {a : Act}
theorem R.after (hr : R B G σ w a) {S' : Nat → Nat → Option Value} {w' : World} (hb : Below w.heap.size w w') (h1 : ∀ b o u, G.S b o = some u → S' b o = some u) (h2 : StC S' w') (h3 : ∀ b o u, S' b o = some u → G.S b o = some u ∨ w.heap.size ≤ b) : G.le ⟨S', G.loc⟩ ∧ R B ⟨S', G.loc⟩ σ w' a := by
  have hle : G.le ⟨S', G.loc⟩ := ⟨h1, fun _ _ h => h⟩
  have hh := hr.heap
  refine ⟨hle, hr.n, fun s av hs => ⟨(hr.slot s av hs).1, (hr.slot s av hs).2.mono hle⟩, hr.defers, ?_, hr.ids⟩
  refine ⟨hb.os.trans hh.os, hb.tape.trans hh.tape, hb.output.trans hh.output, Nat.le_trans hh.size hb.size, fun b hb' hn => (hb.block b (Nat.lt_of_lt_of_le hb' hh.size)).trans (hh.old b hb' hn), fun k ob hk => (hh.obj k ob hk).mono hle fun b base cap sz hl => hb.block b ((hh.obj k ob hk).lt hl), hh.own, hh.inj, fun b o u hs => h2 b o u hs, fun k ob hk b x hl p => ?_, fun b o u hs => ?_, fun b o u hs => h1 _ _ _ (hh.keep b o u hs), hh.fix, fun r hr' => ⟨(hb.block r (Array.getElem?_eq_some_iff.1 (hh.pin r hr').1).1).trans (hh.pin r hr').1, (hh.pin r hr').2⟩, hh.base⟩
  · cases hs : S' b p with
    | none => exact hs
    | some u =>
      exfalso
      rcases h3 b p u hs with h | h
      · rw [hh.sep k ob hk _ _ hl] at h; cases h
      · have := (hh.obj k ob hk).lt hl; omega
  · rcases h3 b o u hs with h | h
    · exact hh.fresh b o u h
    · exact .inr (.inl (Nat.le_trans hh.size h))
end calls
end Go.Proofs.YtafikekndefjcaaDoor
/- Am11: An abstract machine for the text, part eleven: further operations, calls of functions that only compute; plain lemmas over any program; no condition. -/
namespace Go.Proofs.YtafikekndefjcaaDoor
set_option linter.unusedVariables false
set_option linter.unusedSimpArgs false
set_option linter.unusedSectionVars false
open Go.RowKit

section ops
variable {P : Program} {σ : AS} {o : Oper}

def eqAll (ints : Bool) : List AV → List AV → Option Bool
  | [], [] => some true
  | .v (.int k a) :: r, .v (.int k' b) :: s => if ints = true ∧ k = k' then (eqAll ints r s).map ((a == b) && ·) else none
  | .v (.bool a) :: r, .v (.bool b) :: s => if ints = false then (eqAll ints r s).map ((a == b) && ·) else none
  | _, _ => none
theorem part_one {P : Program} {w : World} {e : TypeId} (hag : (isAgg e).run P w = .ok false w) {arr : Array Value} {i : Nat} (h : i < arr.size) : (part e arr (i * 1)).run P w = .ok arr[i] w := by
  simp [part, hag, h]
theorem eqItems_ok {P : Program} {w : World} {e : TypeId} {b : Bool} (d : Nat) (hu : if b then ∃ k, P.underlying e = some (.int k) else P.underlying e = some .bool) (xs ys : Array Value) : ∀ (n k : Nat) (cs ds : List AV) (r : Bool), cs.length = n → k + n ≤ xs.size → k + n ≤ ys.size →
    (∀ G : Gh, ∀ i, i < n → Rv G (cs.getD i .any) (xs.getD (k + i) undef) → True) → (∀ i x, i < n → cs.getD i .any = .v x → xs.getD (k + i) undef = x) → (∀ i x, i < n → ds.getD i .any = .v x → ys.getD (k + i) undef = x) → eqAll b cs ds = some r →
    (Op.eqItems (d + 1) e 1 xs ys (List.range' k n)).run P w = .ok r w
  | 0, k, cs, ds, r, hl, _, _, _, _, _, h => by
    have : cs = [] := List.eq_nil_of_length_eq_zero hl
    subst this
    have hr : r = true := by cases ds <;> simp [eqAll] at h; exact h
    subst hr
    simp [Op.eqItems]
  | n + 1, k, cs, ds, r, hl, hx, hy, _, hcs, hds, h => by
    have hag : (isAgg e).run P w = .ok false w := by
      cases b with
      | true => obtain ⟨kk, hk⟩ := hu; exact agg_of_under hk rfl
      | false => exact agg_of_under hu rfl
    have hkx : k < xs.size := by omega
    have hky : k < ys.size := by omega
    have ex : xs.getD k undef = xs[k] := by simp [Array.getD, hkx]
    have ey : ys.getD k undef = ys[k] := by simp [Array.getD, hky]
    unfold eqAll at h
    split at h
    · simp at hl
    · rename_i kk aa r1 kk' bb s1 t
      split at h
      · rename_i hc
        obtain ⟨rfl, rfl⟩ := hc
        simp only [Option.map_eq_some_iff] at h
        obtain ⟨r', h1, rfl⟩ := h
        obtain ⟨ku, hku⟩ := hu
        have e1 := hcs 0 (.int kk aa) (by omega) (by simp)
        have e2 := hds 0 (.int kk bb) (by omega) (by simp)
        rw [Nat.add_zero, ex] at e1
        rw [Nat.add_zero, ey] at e2
        have ih := eqItems_ok (P := P) (w := w) (b := true) d ⟨ku, hku⟩ xs ys n (k + 1) _ _ r' (by simpa using hl) (by omega) (by omega) (fun _ _ _ _ => trivial)
          (fun i x hi hix => by have := hcs (i + 1) x (by omega) (by simpa using hix); rw [← this]; congr 1; omega)
          (fun i x hi hix => by have := hds (i + 1) x (by omega) (by simpa using hix); rw [← this]; congr 1; omega) h1
        simp only [List.range'_succ, Op.eqItems, Sem.run_bind, part_one hag hkx, part_one hag hky, Result.andThen_ok, e1, e2, run_equalIn_int w d e kk ku aa bb hku]
        cases hab : (aa == bb)
        · simp
        · simpa using ih
      · cases h
    · rename_i aa r1 bb s1 t
      split at h
      · rename_i hc
        subst hc
        simp only [Option.map_eq_some_iff] at h
        obtain ⟨r', h1, rfl⟩ := h
        have e1 := hcs 0 (.bool aa) (by omega) (by simp)
        have e2 := hds 0 (.bool bb) (by omega) (by simp)
        rw [Nat.add_zero, ex] at e1
        rw [Nat.add_zero, ey] at e2
        have hu' : P.underlying e = some .bool := hu
        have ih := eqItems_ok (P := P) (w := w) (b := false) d hu xs ys n (k + 1) _ _ r' (by simpa using hl) (by omega) (by omega) (fun _ _ _ _ => trivial)
          (fun i x hi hix => by have := hcs (i + 1) x (by omega) (by simpa using hix); rw [← this]; congr 1; omega)
          (fun i x hi hix => by have := hds (i + 1) x (by omega) (by simpa using hix); rw [← this]; congr 1; omega) h1
        simp only [List.range'_succ, Op.eqItems, Sem.run_bind, part_one hag hkx, part_one hag hky, Result.andThen_ok, e1, e2, Go.Proofs.YtafikekndefjcaaDoor.run_equalIn_bool d hu' aa bb w]
        cases hab : (aa == bb)
        · simp
        · simpa using ih
      · cases h
    · cases h
theorem eqAll_len {b : Bool} : ∀ {cs ds : List AV} {r : Bool}, eqAll b cs ds = some r → ds.length = cs.length := by
  intro cs
  induction cs with
  | nil => intro ds r h; cases ds <;> simp [eqAll] at h; rfl
  | cons c cs ih =>
    intro ds r h
    unfold eqAll at h
    split at h
    · rename_i e; cases e
    · rename_i e
      cases e
      split at h
      · simp only [Option.map_eq_some_iff] at h
        obtain ⟨r', h1, _⟩ := h
        simp [ih h1]
      · cases h
    · rename_i e
      cases e
      split at h
      · simp only [Option.map_eq_some_iff] at h
        obtain ⟨r', h1, _⟩ := h
        simp [ih h1]
      · cases h
    · cases h

theorem run_equal_arr {P : Program} {w : World} {t : TypeId} {ti : TI} {b : Bool} {len esz : Nat} {g : Bool} {cs ds : List AV} {xs ys : Array Value} {r : Bool} (hT : TIok P t ti) (hk : ti.kind = .arr len esz g) (he : ti.eqk = some b) (hl : cs.length = len) (hx : xs.size = cs.length) (hy : ys.size = ds.length)
    (hcs : ∀ i x, i < cs.length → cs.getD i .any = .v x → xs.getD i undef = x) (hds : ∀ i x, i < ds.length → ds.getD i .any = .v x → ys.getD i undef = x) (h : eqAll b cs ds = some r) : (Op.equalIn 10000 t (.agg xs) (.agg ys)).run P w = .ok r w := by
  obtain ⟨h1, len1, e, j, h2, h3, h4, h5⟩ := hT.eq b he
  obtain ⟨_, _, d, _, _, g3, _, _, _, hkk⟩ := hT.i
  rw [hk] at hkk
  obtain ⟨e', rfl, _⟩ := hkk
  rw [h2] at g3
  injection g3 with g3
  injection g3 with g4 g5
  subst g4 g5
  have hlen := eqAll_len h
  have hc : P.cellsOf e = 1 := by simp [Program.cellsOf, h3, h4]
  rw [run_equalIn_array (d := 9999) (t := t) (e := e) (n := len1) (w := w) _ _ h2 h3, hc, List.range_eq_range']
  refine eqItems_ok 9998 h5 xs ys len1 0 cs ds r hl (by omega) (by omega) (fun _ _ _ _ => trivial) (fun i x hi hix => ?_) (fun i x hi hix => ?_) h
  · rw [Nat.zero_add]; exact hcs i x (by omega) hix
  · rw [Nat.zero_add]; exact hds i x (by omega) hix
theorem ok_eq_arr {neg : Bool} {t yt : TypeId} {ti : TI} {b : Bool} {len esz : Nat} {g : Bool} {x y : Operand} {cs ds : List AV} {r : Bool} (hT : TIok P t ti) (hk : ti.kind = .arr len esz g) (he : ti.eqk = some b) (ho : o.op = .binOp (if neg then .neq else .eql) t x y yt)
    (hx : σ.ev x = some (.agg cs)) (hy : σ.ev y = some (.agg ds)) (hl : cs.length = len) (h : eqAll b cs ds = some r) : CoreOk P o σ (.v (.bool (if neg then !r else r)), []) :=
  CoreOk.pure fun B G w a hr => by
    obtain ⟨xs, hxv, hxl, hx1, hxr⟩ := (hr.ev hx).agg_inv
    obtain ⟨ys, hyv, hyl, hy1, hyr⟩ := (hr.ev hy).agg_inv
    have hrun := run_equal_arr (P := P) (w := w) hT hk he hl hxl hyl (fun i x hi hix => by have := hxr i hi; rw [hix] at this; exact this.v_eq) (fun i x hi hix => by have := hyr i hi; rw [hix] at this; exact this.v_eq) h
    have hgd := (hT.eq b he).1
    refine ⟨_, ?_, .v _⟩
    unfold execOp
    rw [ho]
    cases neg
    · simp [hxv, hyv, run_eqGuard_agg w .eql t x y xs ys hgd, run_eql_struct, hrun]
    · simp [hxv, hyv, run_eqGuard_agg w .neq t x y xs ys hgd, run_neq_struct, hrun]

theorem ok_minmax {mx : Bool} {ts : Array TypeId} {x y : Operand} {k k' : IntKind} {a b : Int} (ho : o.op = .call { callee := .builtin (if mx then .max else .min), args := #[x, y], argTypes := ts }) (hx : σ.ev x = some (.v (.int k a))) (hy : σ.ev y = some (.v (.int k' b))) :
    CoreOk P o σ (.v (.int k (if mx then (if b > a then b else a) else (if b < a then b else a))), []) :=
  CoreOk.pure fun B G w ac hr => by
    have h1 := (hr.ev hx).v_eq
    have h2 := (hr.ev hy).v_eq
    refine ⟨_, ?_, .v _⟩
    unfold execOp
    rw [ho]
    cases mx
    · simp [resolve, invoke, builtin, h1, h2, run_min_int2]
    · simp [resolve, invoke, builtin, h1, h2, run_max_int2]
theorem ok_ptrnil {neg : Bool} {t yt : TypeId} {e : TypeId} {x : Operand} {av : AV} (hp : (∃ k e j, av = .ptr k e j) ∨ ∃ cs, av = .pt cs) (hu : P.underlying t = some (.pointer e)) (ho : o.op = .binOp (if neg then .neq else .eql) t x (.const (.pointer none)) yt) (hx : σ.ev x = some av) :
    CoreOk P o σ (.v (.bool neg), []) :=
  CoreOk.pure fun B G w a hr => by
    have h1 := hr.ev hx
    obtain ⟨ad, hv⟩ : ∃ ad, a.eval x = .pointer (some ad) := by
      rcases hp with ⟨k, e, j, rfl⟩ | ⟨cs, rfl⟩
      · obtain ⟨b, base, cap, sz, hl, hv⟩ := ptr_inv h1; exact ⟨_, hv⟩
      · obtain ⟨b, p, hv, _⟩ := pt_inv h1; exact ⟨_, hv⟩
    have heq : ∀ w, (Op.equal t (.pointer (some ad)) (.pointer none)).run P w = .ok false w := fun w => by
      show (Op.equalIn (9999 + 1) t _ _).run P w = _
      have : ∀ d, (Op.equalIn (d + 1) t (.pointer (some ad)) (.pointer none)).run P w = .ok false w := fun d => by
        simp only [Op.equalIn, Sem.run_bind, run_underlying hu, Result.andThen_ok, Sem.run_pure]
      exact this 9999
    have hc0 : a.eval (.const (.pointer none)) = .pointer none := rfl
    refine ⟨_, ?_, .v _⟩
    unfold execOp
    rw [ho]
    cases neg
    · simp [hv, hc0, eqGuard, binOp, heq]
    · simp [hv, hc0, eqGuard, binOp, heq]
theorem ok_nilnil {neg : Bool} {t yt : TypeId} {e : TypeId} {x : Operand} (hu : P.underlying t = some (.pointer e)) (ho : o.op = .binOp (if neg then .neq else .eql) t x (.const (.pointer none)) yt) (hx : σ.ev x = some (.v (.pointer none))) :
    CoreOk P o σ (.v (.bool (!neg)), []) :=
  CoreOk.pure fun B G w a hr => by
    have hv := (hr.ev hx).v_eq
    have heq : ∀ w, (Op.equal t (.pointer none) (.pointer none)).run P w = .ok true w := fun w => by
      show (Op.equalIn (9999 + 1) t _ _).run P w = _
      have : ∀ d, (Op.equalIn (d + 1) t (.pointer none) (.pointer none)).run P w = .ok true w := fun d => by
        simp only [Op.equalIn, Sem.run_bind, run_underlying hu, Result.andThen_ok, Sem.run_pure, Option.isNone_none]
      exact this 9999
    have hc0 : a.eval (.const (.pointer none)) = .pointer none := rfl
    refine ⟨_, ?_, .v _⟩
    unfold execOp
    rw [ho]
    cases neg
    · simp [hv, hc0, eqGuard, binOp, heq]
    · simp [hv, hc0, eqGuard, binOp, heq]

def nilA : AV → Option Bool
  | .v (.slice none _ _) => some true
  | .v (.slice (some _) _ _) => some false
  | .sl _ (_ :: _) => some false
  | .ref _ _ (_ + 1) => some false
  | _ => none
theorem nilA_ok {G : Gh} {av : AV} {v : Value} {b : Bool} (h : Rv G av v) (hn : nilA av = some b) : ∃ a n c, v = .slice a n c ∧ a.isNone = b := by
  unfold nilA at hn
  split at hn
  · cases hn; rw [h.v_eq]; exact ⟨none, _, _, rfl, rfl⟩
  · cases hn; rw [h.v_eq]; exact ⟨some _, _, _, rfl, rfl⟩
  · cases hn
    cases h with
    | sl _ _ a n c us hn hc hm h0 hz ha h1 hh =>
      obtain ⟨p, o, rfl, _⟩ := ha (by simp)
      exact ⟨_, _, _, rfl, rfl⟩
  · cases hn
    cases h with
    | ref _ _ _ blk base cap sz a hk hle hm hb h0 =>
      obtain ⟨p, _, rfl⟩ := hb (by omega)
      exact ⟨_, _, _, rfl, rfl⟩
  · cases hn
def isNilS : Operand → Bool
  | .const (.slice none 0 0) => true
  | _ => false
theorem isNilS_eq {y : Operand} (h : isNilS y = true) : y = .const (.slice none 0 0) := by
  unfold isNilS at h
  split at h
  · rfl
  · cases h
theorem eqItem_slice_nil {P : Program} {w : World} {t e : TypeId} {a : Option Addr} {l c : Nat} (h : P.underlying t = some (.slice e)) : (Op.equal t (.slice a l c) (.slice none 0 0)).run P w = .ok a.isNone w := by
  have : ∀ d, (Op.equalIn (d + 1) t (.slice a l c) (.slice none 0 0)).run P w = .ok a.isNone w := fun d => by
    cases a <;> simp [Op.equalIn, run_underlying h]
  exact this 9999
theorem ok_nilS {neg : Bool} {t yt : TypeId} {ti : TI} {e : TypeId} {esz eb : Nat} {ez : List Value} {x : Operand} {av : AV} {b : Bool} (hT : TIok P t ti) (hk : ti.kind = .slice e esz eb ez) (ho : o.op = .binOp (if neg then .neq else .eql) t x (.const (.slice none 0 0)) yt) (hx : σ.ev x = some av) (hn : nilA av = some b) :
    CoreOk P o σ (.v (.bool (if neg then !b else b)), []) :=
  CoreOk.pure fun B G w a hr => by
    obtain ⟨_, _, d, _, _, h3, _, _, _, hkk⟩ := hT.i
    rw [hk] at hkk
    obtain ⟨rfl, _⟩ := hkk
    obtain ⟨ad, n, c, hv, rfl⟩ := nilA_ok (hr.ev hx) hn
    have heq := fun w => eqItem_slice_nil (P := P) (w := w) (a := ad) (l := n) (c := c) h3
    have hc0 : a.eval (.const (.slice none 0 0)) = .slice none 0 0 := rfl
    refine ⟨_, ?_, .v _⟩
    unfold execOp
    rw [ho]
    cases neg
    · simp [hv, hc0, eqGuard, binOp, heq]
    · simp [hv, hc0, eqGuard, binOp, heq]
theorem ok_idxStr {t : TypeId} {x y : Operand} {s : ByteArray} {k : IntKind} {z : Int} {b : UInt8} (hu : P.underlying t = some .string) (ho : o.op = .index t x y) (hx : σ.ev x = some (.v (.string s))) (hy : σ.ev y = some (.v (.int k z))) (h0 : 0 ≤ z) (hb : s[z.toNat]? = some b) :
    CoreOk P o σ (.v (.int .u8 b.toNat), []) :=
  CoreOk.pure fun B G w a hr => by
    have h1 := (hr.ev hx).v_eq
    have h2 := (hr.ev hy).v_eq
    refine ⟨_, ?_, .v _⟩
    unfold execOp
    rw [ho]
    simp [Instr.index, h1, h2, asIntOf, run_underlying hu, h0, hb]
theorem ok_append_nil {t : TypeId} {ti : TI} {e : TypeId} {esz eb : Nat} {ez : List Value} {s x : Operand} {id : Nat} {av : AV} {ys : List (List AV)} (hT : TIok P t ti) (hk : ti.kind = .slice e esz eb ez)
    (ho : o.op = .call { callee := .builtin .append, args := #[s, x], argTypes := #[t, t] }) (hs : σ.ev s = some (.v (.slice none 0 0)))
    (hx : σ.ev x = some av) (hys : σ.rows esz av = some ys) (hb : ys.length * eb ≤ 140737488355328) (heb : 0 < eb) (hpos : 0 < ys.length) (hid : id ∉ σ.ids) :
    CoreOk P o σ (.ref id 0 ys.length, [(id, some ⟨e, esz, ys⟩)]) := by
  intro B G w a hr K Q hK
  obtain ⟨_, _, d, _, _, h3, _, _, _, hkk⟩ := hT.i
  rw [hk] at hkk
  obtain ⟨rfl, j, y, hj1, hj2, hj3, hj4, hj5⟩ := hkk
  obtain ⟨hezl, hezo⟩ := hT.ezero _ _ _ _ hk
  obtain ⟨ad2, m, c2, hxv, hm, had2, hrow, f, hf1, hf2⟩ := hr.rows (hr.ev hx) (hT.epos _ _ _ _ hk) hys
  subst hm
  have hsv := (hr.ev hs).v_eq
  have hneed : ys.length ≤ 140737488355328 := by
    have : ys.length * 1 ≤ ys.length * eb := Nat.mul_le_mul_left _ heb
    omega
  obtain ⟨x2, hx2⟩ := had2 hpos
  subst hx2
  have hge := grownCap_ge w ys.length 0 e
  have hcapg : grownCap w ys.length 0 e ≤ 9223372036854775807 := by
    have := grownCap_le_maxLen w ys.length 0 e (by rw [maxLen_eq]; omega)
    rw [maxLen_eq] at this; exact this
  have hzs : ∀ q, (Builtin.zeroCells y.cells q).size = q * esz := fun q => by rw [size_zeroCells]; congr 1; rw [← hezl, ← hj5]; simp
  have hcat := cat_val (G := G) (n := 0) (m := ys.length) (sz := esz) (f0 := fun _ => undef) (f := f) (xs := []) (ys := ys) (z := Builtin.zeroCells y.cells (grownCap w ys.length 0 e - ys.length)) rfl rfl (fun i j hi => by omega) hf2
  rw [show ((List.range (0 * esz)).map fun _ => undef).toArray = #[] by simp, Array.empty_append, List.nil_append] at hcat
  obtain ⟨r1, r2⟩ := hr.new hid (h0 := hT.epos _ _ _ _ hk) (t := e) (sz := esz) (cap := grownCap w ys.length 0 e) (xs := ys) (vs := ((List.range (ys.length * esz)).map f).toArray ++ Builtin.zeroCells y.cells (grownCap w ys.length 0 e - ys.length)) hge hcapg (by
      simp [hzs]
      rw [← Nat.add_mul]; exact Nat.mul_le_mul_right _ (by omega)) hrow hcat (w1 := w.drew) ⟨rfl, rfl, rfl, rfl⟩
  have hrun := run_append_nil (P := P) w t o.type e j y h3 hj1 hj4 x2 ys.length c2 ((List.range (ys.length * esz)).map f) (by simp [hj2]) (fun q u hq => by
      obtain ⟨h1, h2⟩ := range_get _ _ _ _ hq
      rw [hf1 x2 q rfl h1, h2]) hpos (by omega) (by rw [hj3]; omega)
  unfold Oper.wp
  have hop : (execOp a.eval o).run P w = .ok (.value (.slice (some ⟨w.heap.size, 0, none⟩) ys.length (grownCap w ys.length 0 e))) (w.drew.alloc (.cells (((List.range (ys.length * esz)).map f).toArray ++ Builtin.zeroCells y.cells (grownCap w ys.length 0 e - ys.length)) e)) := by
    unfold execOp
    rw [ho]
    simp [resolve, invoke, builtin, hsv, hxv, hrun]
  rw [hop]
  refine hK _ _ _ r1 r2 ?_
  have := Rv.ref (G := G.add id (some w.heap.size, 0, grownCap w ys.length 0 e, esz)) id 0 ys.length (some w.heap.size) 0 (grownCap w ys.length 0 e) esz (some ⟨w.heap.size, 0, none⟩) Gh.add_self (by omega) hcapg (fun _ => ⟨_, rfl, by simp⟩) (fun h => by cases h)
  simpa using this

theorem ok_make {t : TypeId} {ti : TI} {e : TypeId} {esz eb : Nat} {ez : List Value} {x y : Operand} {k k' : IntKind} {n : Int} {id : Nat} (hT : TIok P t ti) (hk : ti.kind = .slice e esz eb ez) (ho : o.op = .makeSlice t x y) (hx : σ.ev x = some (.v (.int k n))) (hy : σ.ev y = some (.v (.int k' n)))
    (h0 : 0 ≤ n) (hb : (eb : Int) * n ≤ 281474976710656) (hn : n ≤ 9223372036854775807) (hes : 0 < esz) (hid : id ∉ σ.ids) : CoreOk P o σ (.ref id 0 n.toNat, [(id, some ⟨e, esz, List.replicate n.toNat (ez.map .v)⟩)]) := by
  intro B G w a hr K Q hK
  obtain ⟨_, _, d, _, _, h3, _, _, _, hkk⟩ := hT.i
  rw [hk] at hkk
  obtain ⟨rfl, j, z, hj1, hj2, hj3, hj4, hj5⟩ := hkk
  obtain ⟨hezl, hezo⟩ := hT.ezero _ _ _ _ hk
  have hxv := (hr.ev hx).v_eq
  have hyv := (hr.ev hy).v_eq
  have hrun := run_make (P := P) w t e j z h3 hj1 hj4 k k' n n h0 (Int.le_refl _) (by rw [hj3]; exact hb) hn
  rw [hj2] at hrun
  have hzc := zeros_cells (G := G) (n := n.toNat * esz) hj5 hezo (fun _ => by omega)
  have hmc : madeCells z.cells (n.toNat * esz) = (Array.range (n.toNat * esz)).map (z.cells[· % z.cells.size]!) := rfl
  obtain ⟨r1, r2⟩ := hr.new hid (h0 := hes) (t := e) (sz := esz) (cap := n.toNat) (xs := List.replicate n.toNat (ez.map .v)) (vs := madeCells z.cells (n.toNat * esz)) (by simp) (by omega) (by rw [size_madeCells]; exact Nat.le_refl _) (fun i hi => by
      simp only [List.length_replicate] at hi
      simp [List.getD, List.getElem?_replicate, hi, hezl]) (fun i c hi hc => by
      simp only [List.length_replicate] at hi
      have hq := dm_lt hi hc
      have hlen : (zeros ez (n.toNat * esz)).length = n.toNat * esz := by simp [zeros]
      rw [hmc]
      refine ⟨hzc.one _ (by omega), ?_⟩
      have h2 := hzc.rv (i * esz + c) (by omega)
      have e1 : (zeros ez (n.toNat * esz)).getD (i * esz + c) .any = ((List.replicate n.toNat (ez.map AV.v)).getD i []).getD c .any := by
        have hm : (i * esz + c) % esz = c := by rw [Nat.add_comm, Nat.add_mul_mod_self_right, Nat.mod_eq_of_lt hc]
        simp [zeros, List.getD, hq, hezl, hm, List.getElem?_replicate, hi, List.getElem?_eq_getElem (show c < ez.length by omega)]
      rw [e1] at h2
      exact h2) (w1 := w) ⟨rfl, rfl, rfl, rfl⟩
  unfold Oper.wp
  have hop : (execOp a.eval o).run P w = .ok (.value (.slice (some ⟨w.heap.size, 0, none⟩) n.toNat n.toNat)) (w.alloc (.cells (madeCells z.cells (n.toNat * esz)) e)) := by
    unfold execOp
    rw [ho]
    simp [hxv, hyv, hrun]
  rw [hop]
  refine hK _ _ _ r1 r2 ?_
  have := Rv.ref (G := G.add id (some w.heap.size, 0, n.toNat, esz)) id 0 n.toNat (some w.heap.size) 0 n.toNat esz (some ⟨w.heap.size, 0, none⟩) Gh.add_self (by omega) (by omega) (fun _ => ⟨_, rfl, by simp⟩) (fun h => by cases h)
  simpa using this

def bndA (σ : AS) (n : Nat) (lo hi : Option Operand) : Option (Nat × Nat) :=
  match (match hi with
    | none => some n
    | some x => match σ.ev x with
      | some (.v (.int _ z)) => if 0 ≤ z ∧ z ≤ n then some z.toNat else none
      | _ => none) with
  | none => none
  | some h =>
    match lo with
    | none => some (0, h)
    | some x => match σ.ev x with
      | some (.v (.int _ z)) => if 0 ≤ z ∧ z ≤ h then some (z.toNat, h) else none
      | _ => none
theorem bndA_ok {B : Base} {G : Gh} {w : World} {a : Act} (hr : R B G σ w a) {n c l h : Nat} {lo hi : Option Operand} (hn : n ≤ c) (hb : bndA σ n lo hi = some (l, h)) : l ≤ h ∧ h ≤ n ∧ (Instr.sliceBounds true n c (lo.map a.eval) (hi.map a.eval) none).run P w = .ok (l, h, c) w := by
  unfold bndA at hb
  split at hb
  · cases hb
  · rename_i hh hhi
    have hH : hh ≤ n ∧ (∀ m, (match hi.map a.eval, (none : Option Value) with
      | some v, some _ => Instr.sliceBound v m .slice3B
      | some v, none => Instr.sliceBound v m (if true then .sliceAcap else .sliceAlen)
      | none, none => Pure.pure n
      | none, some _ => stuck "Slice: max without high" : Sem Nat) = (match hi.map a.eval with | some v => Instr.sliceBound v m .sliceAcap | none => Pure.pure n)) ∧ (match hi.map a.eval with | some v => Instr.sliceBound v c .sliceAcap | none => Pure.pure n : Sem Nat).run P w = .ok hh w := by
      cases hi with
      | none => simp only [Option.some.injEq] at hhi; subst hhi; exact ⟨Nat.le_refl _, fun _ => rfl, rfl⟩
      | some x =>
        simp only at hhi
        split at hhi
        · rename_i k z hz
          split at hhi
          · rename_i hc
            cases hhi
            have hv := (hr.ev hz).v_eq
            refine ⟨by omega, fun _ => rfl, ?_⟩
            simp only [Option.map_some, hv]
            exact run_sliceBound w k z c _ hc.1 (by omega)
          · cases hhi
        · cases hhi
    obtain ⟨h1, _, h3⟩ := hH
    cases lo with
    | none =>
      simp only [Option.some.injEq, Prod.mk.injEq] at hb
      obtain ⟨rfl, rfl⟩ := hb
      refine ⟨Nat.zero_le _, h1, ?_⟩
      cases hi with
      | none =>
        simp only [Option.map_none, Sem.run_pure, Result.ok.injEq, and_true] at h3
        simp [Instr.sliceBounds, h3]
      | some x =>
        simp only [Option.map_some] at h3
        simp [Instr.sliceBounds, h3]
    | some y =>
      simp only at hb
      split at hb
      · rename_i k z hz
        split at hb
        · rename_i hc
          cases hb
          have hv := (hr.ev hz).v_eq
          have h4 := run_sliceBound (P := P) w k z h .sliceB hc.1 hc.2
          refine ⟨by omega, h1, ?_⟩
          cases hi with
          | none =>
            simp only [Option.map_none, Sem.run_pure, Result.ok.injEq, and_true] at h3
            subst h3
            simp [Instr.sliceBounds, hv, h4]
          | some x =>
            simp only [Option.map_some] at h3
            simp [Instr.sliceBounds, h3, hv, h4]
        · cases hb
      · cases hb
theorem ok_slice_sl {t : TypeId} {ti : TI} {e : TypeId} {esz eb : Nat} {ez : List Value} {x : Operand} {lo hi : Option Operand} {xs : List (List AV)} {l h : Nat} (hT : TIok P t ti) (hk : ti.kind = .slice e esz eb ez) (ho : o.op = .slice t x lo hi none) (hx : σ.ev x = some (.sl esz xs)) (hb : bndA σ xs.length lo hi = some (l, h)) :
    CoreOk P o σ (.sl esz ((xs.drop l).take (h - l)), []) :=
  CoreOk.pure fun B G w a hr => by
    obtain ⟨_, _, d, _, _, h3, _, _, _, hkk⟩ := hT.i
    rw [hk] at hkk
    obtain ⟨rfl, j, z, hj1, hj2, hj3, hj4, hj5⟩ := hkk
    have hsz : ∀ w, (sizeOf e).run P w = .ok esz w := fun w => size_of_info hj1 hj2
    have hxv := hr.ev hx
    generalize hv : a.eval x = v at hxv
    cases hxv with
    | sl _ _ ad n c us hn hc hm h0 hz ha h1 hh =>
      subst hn
      obtain ⟨b1, b2, b3⟩ := bndA_ok (P := P) hr hc hb
      have hlen : ((xs.drop l).take (h - l)).length = h - l := by simp; omega
      have hrow : ∀ i, i < h - l → ((xs.drop l).take (h - l)).getD i [] = xs.getD (l + i) [] := fun i hi => by simp [List.getD, List.getElem?_take, hi, List.getElem?_drop]
      refine ⟨.slice (if c = l then ad else ad.map (·.add (l * esz))) (h - l) (c - l), ?_, .sl _ _ _ _ _ (fun i j => us (l + i) j) hlen.symm (by omega) (by omega) (fun e => ?_) (fun i hi => ?_) (fun hp => ?_) (fun i j hi hj => h1 _ _ (by omega) hj) (fun i j hi hj => ?_)⟩
      · unfold execOp
        rw [ho]
        simp only [Instr.sliceAt, hv, Option.map_none, Sem.run_bind, run_underlying h3, Result.andThen_ok, Instr.slice, b3, hsz, Sem.run_pure]
      · split at e
        · have := h0 e; omega
        · cases ad with
          | none => have := h0 rfl; omega
          | some _ => simp at e
      · rw [hlen] at hi; rw [hrow i hi]; exact hz _ (by omega)
      · rw [hlen] at hp
        obtain ⟨b, p, rfl, hs⟩ := ha (by omega)
        refine ⟨b, p + l * esz, by rw [if_neg (by omega)]; simp [Addr.add_lit], fun i j hi hj => ?_⟩
        rw [hlen] at hi
        have := hs (l + i) j (by omega) hj
        rw [← this]; congr 1; rw [Nat.add_mul]; omega
      · rw [hlen] at hi; rw [hrow i hi]; exact hh _ _ (by omega) hj
theorem ok_slice_ref {t : TypeId} {ti : TI} {e : TypeId} {esz eb : Nat} {ez : List Value} {x : Operand} {lo hi : Option Operand} {k off n l h : Nat} {ob : AObj} (hT : TIok P t ti) (hk : ti.kind = .slice e esz eb ez) (ho : o.op = .slice t x lo hi none) (hx : σ.ev x = some (.ref k off n)) (hob : lk σ.objs k = some ob) (hsz : ob.sz = esz) (hb : bndA σ n lo hi = some (l, h)) :
    CoreOk P o σ (.ref k (off + l) (h - l), []) :=
  CoreOk.pure fun B G w a hr => by
    obtain ⟨_, _, d, _, _, h3, _, _, _, hkk⟩ := hT.i
    rw [hk] at hkk
    obtain ⟨rfl, j, z, hj1, hj2, hj3, hj4, hj5⟩ := hkk
    have hsz' : ∀ w, (sizeOf e).run P w = .ok esz w := fun w => size_of_info hj1 hj2
    have hxv := hr.ev hx
    generalize hv : a.eval x = v at hxv
    cases hxv with
    | ref _ _ _ blk base cap sz ad hl hle hcm hb' h0 =>
      obtain ⟨blk', ba, ca, g1, _⟩ := hr.heap.obj k ob hob
      rw [hl] at g1
      cases g1
      subst hsz
      obtain ⟨b1, b2, b3⟩ := bndA_ok (P := P) hr (show n ≤ cap - off by omega) hb
      have e0 : cap - off - l = cap - (off + l) := by omega
      refine ⟨.slice (if cap - off = l then ad else ad.map (·.add (l * ob.sz))) (h - l) (cap - (off + l)), ?_, .ref k (off + l) (h - l) blk base cap ob.sz _ hl (by omega) hcm (fun hlt => ?_) (fun e => ?_)⟩
      · unfold execOp
        rw [ho]
        simp only [Instr.sliceAt, hv, Option.map_none, Sem.run_bind, run_underlying h3, Result.andThen_ok, Instr.slice, b3, hsz', Sem.run_pure, e0]
      · obtain ⟨b, rfl, rfl⟩ := hb' (by omega)
        refine ⟨b, rfl, ?_⟩
        rw [if_neg (by omega)]
        simp only [Option.map_some, Addr.add_lit, Option.some.injEq, Addr.mk.injEq, true_and, and_true]
        rw [Nat.add_mul]; omega
      · split at e
        · have := h0 e; omega
        · cases ad with
          | none => have := h0 rfl; omega
          | some _ => simp at e
end ops

/-! ### Calls -/
section calls
variable {P : Program} {σ : AS} {o : Oper}
def AS.evs (σ : AS) : List Operand → Option (List AV)
  | [] => some []
  | x :: r => match σ.ev x, σ.evs r with
    | some a, some l => some (a :: l)
    | _, _ => none
theorem R.evs {B : Base} {G : Gh} {w : World} {a : Act} (hr : R B G σ w a) : ∀ {xs : List Operand} {l : List AV}, σ.evs xs = some l → l.length = xs.length ∧ ∀ i, i < l.length → Rv G (l.getD i .any) ((xs.map a.eval).getD i undef)
  | [], l, h => by simp only [AS.evs, Option.some.injEq] at h; subst h; exact ⟨rfl, fun i hi => by simp at hi⟩
  | x :: r, l, h => by
    simp only [AS.evs] at h
    split at h
    · rename_i av l' hx hl
      cases h
      obtain ⟨h1, h2⟩ := hr.evs hl
      refine ⟨by simp [h1], fun j hj => ?_⟩
      cases j with
      | zero => simpa using hr.ev hx
      | succ j => simpa using h2 j (by simpa using hj)
    · cases h
def fnB (P : Program) (f : FuncId) : Bool := match P.funcs[f]? with
  | some fn => !(fn.name == "runtime.NumGoroutine") && fn.body.isSome
  | none => false
theorem run_callFunc {f : FuncId} (h : fnB P f = true) (args : Array Value) (w : World) : (callFunc f args).run P w = .ok (.enter f args) w := by
  unfold fnB at h
  split at h
  · rename_i fn hf
    simp only [Bool.and_eq_true, Bool.not_eq_true', Option.isSome_iff_exists] at h
    obtain ⟨h1, c, hc⟩ := h
    have h1' : fn.name ≠ "runtime.NumGoroutine" := by simpa using h1
    simp [callFunc, hf, h1', hc]
  · cases h
def Enters (P : Program) (o : Oper) (σ : AS) (f : FuncId) (avs : List AV) : Prop := ∀ (B : Base) (G : Gh) (w : World) (a : Act), R B G σ w a → ∃ argv : Array Value, (execOp a.eval o).run P w = .ok (.enter f argv) w ∧ argv.size = avs.length ∧ ∀ i, i < avs.length → Rv G (avs.getD i .any) (argv.getD i undef)
def AS.callee (σ : AS) (x : Operand) : Option (FuncId × List AV) :=
  match σ.ev x with
  | some (.v (.func (.func f) first caps)) => if first.size = 0 ∧ caps.size = 0 then some (f, []) else none
  | some (.clo f cs) => some (f, cs)
  | _ => none
theorem callee_ok {B : Base} {G : Gh} {w : World} {a : Act} (hr : R B G σ w a) {x : Operand} {f : FuncId} {cs : List AV} (h : σ.callee x = some (f, cs)) : ∃ us : List Value, a.eval x = .func (.func f) #[] us.toArray ∧ us.length = cs.length ∧ ∀ i, i < cs.length → Rv G (cs.getD i .any) (us.getD i undef) := by
  unfold AS.callee at h
  split at h
  · rename_i f' first caps hx
    split at h
    · rename_i hc
      cases h
      have h1 := (hr.ev hx).v_eq
      rw [Array.eq_empty_of_size_eq_zero hc.1, Array.eq_empty_of_size_eq_zero hc.2] at h1
      exact ⟨[], h1, rfl, fun i hi => by simp at hi⟩
    · cases h
  · rename_i f' cs' hx
    cases h
    have h1 := hr.ev hx
    generalize a.eval x = v at h1
    cases h1 with
    | clo _ _ us hl h2 => exact ⟨us, rfl, hl, h2⟩
  · cases h
theorem enters_ok {x : Operand} {f : FuncId} {args : Array Operand} {ts : Array TypeId} {avs cs : List AV} (ho : o.op = .call { callee := .value x, args := args, argTypes := ts }) (hfn : fnB P f = true) (hx : σ.callee x = some (f, cs)) (hargs : σ.evs args.toList = some avs) : Enters P o σ f (avs ++ cs) := by
  intro B G w a hr
  obtain ⟨h1, h2⟩ := hr.evs hargs
  obtain ⟨us, h3, h4, h5⟩ := callee_ok hr hx
  refine ⟨args.map a.eval ++ us.toArray, ?_, by simp [h4, h1], fun i hi => ?_⟩
  · unfold execOp
    rw [ho]
    simp only [resolve, h3, Deferred.ofValue, invoke, Sem.run_bind, Sem.run_pure, Result.andThen_ok, run_callFunc hfn]
    simp
  · by_cases hlt : i < avs.length
    · have := h2 i (by omega)
      have e1 : (avs ++ cs).getD i .any = avs.getD i .any := by simp [List.getD, List.getElem?_append_left hlt]
      have e2 : (args.map a.eval ++ us.toArray).getD i undef = (args.toList.map a.eval).getD i undef := by
        have hsz : args.size = avs.length := by simpa using h1.symm
        rw [Array.getD_eq_getD_getElem?, Array.getElem?_append_left (show i < (args.map a.eval).size by simp; omega)]
        simp [List.getD]
      rw [e1, e2]; exact this
    · have hsz : args.size = avs.length := by simpa using h1.symm
      have := h5 (i - avs.length) (by simp at hi; omega)
      have e1 : (avs ++ cs).getD i .any = cs.getD (i - avs.length) .any := by simp [List.getD, List.getElem?_append_right (by omega : avs.length ≤ i)]
      have e2 : (args.map a.eval ++ us.toArray).getD i undef = us.getD (i - avs.length) undef := by
        simp [List.getD, Array.getD_eq_getD_getElem?, Array.getElem?_append_right (show (args.map a.eval).size ≤ i by simp; omega), hsz]
      rw [e1, e2]; exact this
def AS.bound (σ : AS) (x : Operand) : Option (FuncId × List AV) :=
  match σ.ev x with
  | some (.bnd f fs) => some (f, fs)
  | _ => none
theorem enters_bnd {x : Operand} {f : FuncId} {args : Array Operand} {ts : Array TypeId} {avs fs : List AV} (ho : o.op = .call { callee := .value x, args := args, argTypes := ts }) (hfn : fnB P f = true) (hx : σ.bound x = some (f, fs)) (hargs : σ.evs args.toList = some avs) : Enters P o σ f (fs ++ avs) := by
  intro B G w a hr
  obtain ⟨h1, h2⟩ := hr.evs hargs
  unfold AS.bound at hx
  split at hx
  · rename_i f' fs' hxx
    cases hx
    have hv := hr.ev hxx
    generalize hev : a.eval x = v at hv
    cases hv with
    | bnd _ _ us h4 h5 =>
      have hsz : args.size = avs.length := by simpa using h1.symm
      refine ⟨us.toArray ++ args.map a.eval, ?_, by simp [h4, h1], fun i hi => ?_⟩
      · unfold execOp
        rw [ho]
        simp only [resolve, hev, Deferred.ofValue, invoke, Sem.run_bind, Sem.run_pure, Result.andThen_ok, run_callFunc hfn]
        simp
      · by_cases hlt : i < fs.length
        · have e1 : (fs ++ avs).getD i .any = fs.getD i .any := by simp [List.getD, List.getElem?_append_left hlt]
          have e2 : (us.toArray ++ args.map a.eval).getD i undef = us.getD i undef := by
            rw [Array.getD_eq_getD_getElem?, Array.getElem?_append_left (show i < us.toArray.size by simp; omega)]
            simp [List.getD]
          rw [e1, e2]; exact h5 i hlt
        · have := h2 (i - fs.length) (by simp at hi; omega)
          have e1 : (fs ++ avs).getD i .any = avs.getD (i - fs.length) .any := by simp [List.getD, List.getElem?_append_right (by omega : fs.length ≤ i)]
          have e2 : (us.toArray ++ args.map a.eval).getD i undef = (args.toList.map a.eval).getD (i - fs.length) undef := by
            simp [List.getD, Array.getD_eq_getD_getElem?, Array.getElem?_append_right (show us.toArray.size ≤ i by simp; omega), h4]
          rw [e1, e2]; exact this
  · cases hx
def AS.entry (σ : AS) (x : Operand) (avs : List AV) : Option (FuncId × List AV) :=
  match σ.callee x with
  | some (f, cs) => some (f, avs ++ cs)
  | none => match σ.bound x with
    | some (f, fs) => some (f, fs ++ avs)
    | none => none
theorem enters_entry {x : Operand} {f : FuncId} {args : Array Operand} {ts : Array TypeId} {avs L : List AV} (ho : o.op = .call { callee := .value x, args := args, argTypes := ts }) (hfn : fnB P f = true) (hx : σ.entry x avs = some (f, L)) (hargs : σ.evs args.toList = some avs) : Enters P o σ f L := by
  unfold AS.entry at hx
  split at hx
  · rename_i f' cs hc
    cases hx
    exact enters_ok ho hfn hc hargs
  · split at hx
    · rename_i f' fs hb
      cases hx
      exact enters_bnd ho hfn hb hargs
    · cases hx
theorem ok_call {f : FuncId} {avs : List AV} {res : AV} (hen : Enters P o σ f avs) (hp : idsL avs = []) (hF : FnPure P f avs res) : CoreOk P o σ (res, []) := by
  intro B G w a hr K Q hK
  obtain ⟨argv, hop, h1, h2⟩ := hen B G w a hr
  unfold Oper.wp
  rw [hop]
  have hc := hF G.S w argv hr.heap.stOk h1 (fun i hi => by
    have h3 := Rv.pure (G := G) (G' := G0 G.S) (fun _ _ _ h => h) (h2 i hi) (by
      refine List.eq_nil_iff_forall_not_mem.2 fun q hq => ?_
      have := idsL_mem hi hq
      rw [hp] at this; cases this)
    exact h3)
  refine Calls.mono hc fun e w' hl => ?_
  obtain ⟨v, S', rfl, hb, g1, g2, g3, g4⟩ := hl
  obtain ⟨r1, r2⟩ := hr.after hb g1 g2 g3
  exact hK _ _ _ r1 r2 (Rv.mono (G := G0 S') (G' := ⟨S', G.loc⟩) ⟨fun _ _ _ h => h, fun _ _ h => by cases h⟩ g4)
theorem ok_call_borrow {f : FuncId} {avs bvs : List AV} {res : AV} (hen : Enters P o σ f avs) (hp : σ.shutM (fun _ => true) avs = some bvs) (hF : FnPure P f bvs res) (hs : res.scalar = true) : CoreOk P o σ (res, []) := by
  intro B G w a hr K Q hK
  obtain ⟨argv, hop, h1, h2⟩ := hen B G w a hr
  unfold Oper.wp
  rw [hop]
  obtain ⟨h3, h4⟩ := shutM_ok hr (D := fun _ => true) (T := fun b p => w.cell? ⟨b, p, none⟩) (L := fun _ => none) hr.heap.st (fun k ob b x p u _ _ _ h => h) (fun i => argv.getD i undef) h2 hp
  have hc := hF (fun b p => w.cell? ⟨b, p, none⟩) w argv hr.heap.allOk (by omega) (fun i hi => h4 i (by omega))
  refine Calls.mono hc fun e w' hl => ?_
  obtain ⟨v, S', rfl, hb, g1, g2, g3, g4⟩ := hl
  obtain ⟨r1, r2⟩ := hr.after (S' := G.S) hb (fun _ _ _ h => h) (fun b p u h => by
    have := hr.heap.st b p u h
    exact (hb.cell (World.block_lt_of_cell? _ _ this)).trans this) (fun _ _ _ h => .inl h)
  exact hK _ _ _ r1 r2 (g4.scalar hs)
theorem ok_call_fresh {f : FuncId} {avs bvs : List AV} {res : AV} (hen : Enters P o σ f avs) (hp : σ.shutM (fun _ => true) avs = some bvs) (hF : FnFresh P f bvs res) : CoreOk P o σ (res, []) := by
  intro B G w a hr K Q hK
  obtain ⟨argv, hop, h1, h2⟩ := hen B G w a hr
  unfold Oper.wp
  rw [hop]
  obtain ⟨h3, h4⟩ := shutM_ok hr (D := fun _ => true) (T := fun b p => w.cell? ⟨b, p, none⟩) (L := fun _ => none) hr.heap.st (fun k ob b x p u _ _ _ h => h) (fun i => argv.getD i undef) h2 hp
  have hc := hF (fun b p => w.cell? ⟨b, p, none⟩) w argv hr.heap.allOk (by omega) (fun i hi => h4 i (by omega))
  refine Calls.mono hc fun e w' hl => ?_
  obtain ⟨v, rfl, hb, g4⟩ := hl
  have hlt : ∀ b p u, G.S b p = some u → b < w.heap.size := fun b p u h => World.block_lt_of_cell? _ _ (hr.heap.st b p u h)
  obtain ⟨r1, r2⟩ := hr.after (S' := fun b p => if b < w.heap.size then G.S b p else w'.cell? ⟨b, p, none⟩) hb (fun b p u h => by
      show (if b < w.heap.size then _ else _) = _
      rw [if_pos (hlt b p u h)]; exact h) (fun b p u h => by
      replace h : (if b < w.heap.size then G.S b p else w'.cell? ⟨b, p, none⟩) = some u := h
      split at h
      · rename_i hl; exact (hb.cell hl).trans (hr.heap.st b p u h)
      · exact h) (fun b p u h => by
      replace h : (if b < w.heap.size then G.S b p else w'.cell? ⟨b, p, none⟩) = some u := h
      split at h
      · exact .inl h
      · exact .inr (by omega))
  refine hK _ _ _ r1 r2 (Rv.mono (G := G0 (newS (fun b o => w'.cell? ⟨b, o, none⟩) w.heap.size)) (G' := ⟨fun b p => if b < w.heap.size then G.S b p else w'.cell? ⟨b, p, none⟩, G.loc⟩) ⟨fun b p u h => ?_, fun _ _ h => by cases h⟩ g4)
  simp only [G0, newS] at h ⊢
  split at h
  · cases h
  · rename_i hn; rw [if_neg hn]; exact h
end calls
end Go.Proofs.YtafikekndefjcaaDoor
/- Am11m: An abstract machine for the text, part eleven m: maps; plain lemmas over any program; no condition. -/
namespace Go.Proofs.YtafikekndefjcaaDoor
set_option linter.unusedVariables false
set_option linter.unusedSimpArgs false
set_option linter.unusedSectionVars false
open Go.RowKit

/-! ### Keys -/
theorem sameNow_eq {d : TypeDesc} {a b : Value} : (Instr.sameNow d a b = some true → a = b) ∧ (Instr.sameNow d a b = some false → a ≠ b) := by
  constructor
  · intro h
    cases d <;> cases a <;> cases b <;> simp [Instr.sameNow] at h
    · rw [h]
    · rw [h.1, h.2]
    · rw [(MapKept.bytes_beq _ _).1 h]
  · intro h e
    subst e
    cases d <;> cases a <;> simp [Instr.sameNow] at h
    rename_i s
    have := (MapKept.bytes_beq s s).2 rfl
    rw [h] at this; cases this
def isKeyB (d : TypeDesc) (k : Value) : Bool := match d, k with
  | .bool, .bool _ => true
  | .int a, .int b _ => b == a
  | .string, .string _ => true
  | _, _ => false
theorem isKeyB_ok {d : TypeDesc} {k : Value} (h : isKeyB d k = true) : MapKept.IsKey d k := by
  cases d <;> cases k <;> simp [isKeyB, MapKept.IsKey] at h ⊢
  exact h
def findA (d : TypeDesc) (kv : Value) : List (List AV) → Nat → Option (Option Nat)
  | [], _ => some none
  | [.v k', _] :: rs, i => match Instr.sameNow d kv k' with
    | some true => some (some i)
    | some false => findA d kv rs (i + 1)
    | none => none
  | _ :: _, _ => none
theorem findA_ok {d : TypeDesc} {kv : Value} : ∀ {xs : List (List AV)} {es : List MapEntry} {i : Nat} {r : Option Nat}, es.length = xs.length → (∀ j, j < xs.length → ∃ e k av, es[j]? = some e ∧ xs.getD j [] = [.v k, av] ∧ e.key = k) → findA d kv xs i = some r →
    match r with
    | none => Instr.findNow d kv es i = some none ∧ ∀ x ∈ es, x.key ≠ kv
    | some m => ∃ j e, m = i + j ∧ es[j]? = some e ∧ e.key = kv ∧ Instr.findNow d kv es i = some (some (m, e.val))
  | [], [], i, r, _, _, h => by simp only [findA, Option.some.injEq] at h; subst h; exact ⟨rfl, fun x hx => by cases hx⟩
  | [], _ :: _, _, _, hl, _, _ => by simp at hl
  | _ :: _, [], _, _, hl, _, _ => by simp at hl
  | r :: rs, e :: es, i, res, hl, hrow, h => by
    obtain ⟨e0, k, av, a1, a2, a3⟩ := hrow 0 (by simp)
    simp only [List.getElem?_cons_zero, Option.some.injEq] at a1
    subst a1
    simp only [List.getD_cons_zero] at a2
    subst a2
    simp only [findA] at h
    subst a3
    split at h
    · rename_i hs
      cases h
      exact ⟨0, e, rfl, rfl, (sameNow_eq.1 hs).symm, by simp [Instr.findNow, hs]⟩
    · rename_i hs
      have ih := findA_ok (xs := rs) (es := es) (i := i + 1) (r := res) (by simpa using hl) (fun j hj => by
        obtain ⟨e1, k1, av1, b1, b2, b3⟩ := hrow (j + 1) (by simpa using hj)
        exact ⟨e1, k1, av1, by simpa using b1, by simpa using b2, b3⟩) h
      cases res with
      | none =>
        obtain ⟨h1, h2⟩ := ih
        refine ⟨by simp [Instr.findNow, hs, h1], fun x hx => ?_⟩
        cases hx with
        | head => exact fun q => sameNow_eq.2 hs q.symm
        | tail _ hx => exact h2 x hx
      | some m =>
        obtain ⟨j, e1, h1, h2, h3, h4⟩ := ih
        exact ⟨j + 1, e1, by omega, by simpa using h2, h3, by simp [Instr.findNow, hs, h4]⟩
    · cases h

section mem
variable {P : Program} {σ : AS} {B : Base} {G : Gh} {w : World} {a : Act}
theorem R.newMap (hr : R B G σ w a) {id : Nat} (hid : id ∉ σ.ids) (t : TypeId) :
    G.le (G.add id (some w.heap.size, 0, 0, 0)) ∧ R B (G.add id (some w.heap.size, 0, 0, 0)) (σ.upd [(id, some ⟨t, 0, []⟩)]) (w.alloc (.map #[] 0)) a := by
  have hn := hr.fresh hid
  have hle : G.le (G.add id (some w.heap.size, 0, 0, 0)) := Gh.add_le hn
  have hnew := (MapKept.heap_alloc w (.map #[] 0)).1
  have hold := (MapKept.heap_alloc w (.map #[] 0)).2
  refine ⟨hle, hr.n, fun s av hs => ?_, hr.defers, ?_, fun k hk => ?_⟩
  · obtain ⟨h1, h2⟩ := hr.slot s av hs
    exact ⟨h1, h2.mono hle⟩
  · refine hr.heap.step rfl rfl rfl (by show w.heap.size ≤ (w.heap.push _).size; simp) hle rfl w.heap.size id (fun b _ hlt => hold b hlt) (.inl (Nat.le_refl _)) (fun k ob hk => ?_)
    simp only [AS.upd, updO, lk_st] at hk
    split at hk
    · rename_i e; subst e
      cases hk
      refine .inl ⟨rfl, .ofMap rfl Gh.add_self ⟨#[], 0, hnew, MapKept.stamped_empty 0, rfl, fun i hi => by simp at hi⟩, fun b x hl => ?_⟩
      rw [Gh.add_self] at hl; cases hl; rfl
    · rename_i e
      refine .inr ⟨Ne.symm e, hk, fun b x hl => ?_⟩
      have := (hr.heap.obj k ob hk).lt hl
      omega
  · rw [AS.upd, updI_one]
    simp only [Gh.add] at hk
    split at hk
    · exact .inl (by assumption)
    · exact .inr (hr.ids k hk)
theorem R.writeMap (hr : R B G σ w a) {k : Nat} {ob : AObj} (hk : lk σ.objs k = some ob) (hz : ob.sz = 0) {b base cap : Nat} (hl : G.loc k = some (some b, base, cap, 0)) {o1 o' : Obj} (hw : w.heap[b]? = some o1) {xs' : List (List AV)}
    (hm : MapAt G { w with heap := w.heap.setIfInBounds b o' } b { ob with xs := xs' }) : R B G (σ.upd [(k, some { ob with xs := xs' })]) { w with heap := w.heap.setIfInBounds b o' } a := by
  refine ⟨hr.n, fun s av hs => hr.slot s av hs, hr.defers, ?_, fun q hq => ?_⟩
  · refine hr.heap.step rfl rfl rfl (by show _ ≤ (w.heap.setIfInBounds b o').size; simp) (Gh.le.refl G) rfl b k (fun q hq _ => (MapKept.heap_set hw).2 q hq) (.inr ⟨k, ob, _, hk, hl⟩) (fun q oq hq => ?_)
    simp only [AS.upd, updO, lk_st] at hq
    split at hq
    · rename_i eq; subst eq
      cases hq
      refine .inl ⟨rfl, .ofMap hz hl hm, fun b' x hl' => ?_⟩
      rw [hl] at hl'; cases hl'; rfl
    · rename_i eq
      refine .inr ⟨Ne.symm eq, hq, fun b' x hl' e => eq ?_⟩
      subst e
      exact hr.heap.inj k q ob oq hk hq _ _ _ hl hl'
  · rw [AS.upd, updI_one]; exact .inr (hr.ids q hq)
theorem mp_inv {k : Nat} {v : Value} (h : Rv G (.mp k) v) : ∃ b x, G.loc k = some (some b, x) ∧ v = .map (some b) := by
  cases h with
  | mp _ b x hk => exact ⟨b, x, hk, rfl⟩
theorem R.mapAt (hr : R B G σ w a) {k : Nat} {ob : AObj} {v : Value} (hv : Rv G (.mp k) v) (hk : lk σ.objs k = some ob) (hz : ob.sz = 0) : ∃ b base cap, G.loc k = some (some b, base, cap, 0) ∧ v = .map (some b) ∧ MapAt G w b ob := by
  obtain ⟨b, x, h1, rfl⟩ := mp_inv hv
  obtain ⟨b', base, cap, h2, h3⟩ := (hr.heap.obj k ob hk).map hz
  rw [h1] at h2
  cases h2
  exact ⟨b, base, cap, h1, rfl, h3⟩
end mem

section ops
variable {P : Program} {σ : AS} {o : Oper}
theorem ok_makeMap {t kt et : TypeId} {x : Option Operand} {id : Nat} (hu : P.underlying t = some (.map kt et)) (ho : o.op = .makeMap t x) (hx : ∀ y, x = some y → ∃ k n, σ.ev y = some (.v (.int k n))) (hid : id ∉ σ.ids) : CoreOk P o σ (.mp id, [(id, some ⟨t, 0, []⟩)]) := by
  intro B G w a hr K Q hK
  obtain ⟨hle, hr'⟩ := hr.newMap hid t
  unfold Oper.wp
  have hrun : (execOp a.eval o).run P w = .ok (.value (.map (some w.heap.size))) (w.alloc (.map #[] 0)) := by
    unfold execOp
    rw [ho]
    cases x with
    | none => simp [Instr.makeMap]
    | some y =>
      obtain ⟨k, n, hy⟩ := hx y rfl
      have hyv := (hr.ev hy).v_eq
      simp [Instr.makeMap, hyv, run_underlying hu, asInt, asIntOf, Result.andThen]
  rw [hrun]
  exact hK _ _ _ hle hr' (.mp id w.heap.size (0, 0, 0) Gh.add_self)
theorem findA_row {d : TypeDesc} {kv : Value} : ∀ {xs : List (List AV)} {i m : Nat}, findA d kv xs i = some (some m) → i ≤ m ∧ m - i < xs.length
  | [], i, m, h => by simp [findA] at h
  | r :: rs, i, m, h => by
    unfold findA at h
    split at h
    · cases h
    · rename_i heq
      cases heq
      split at h
      · cases h; exact ⟨Nat.le_refl _, by simp⟩
      · obtain ⟨h1, h2⟩ := findA_row h
        exact ⟨by omega, by simp; omega⟩
      · cases h
    · cases h
def lookR (ok : Bool) (av : AV) (b : Bool) : AV := if ok = true then .tup [av, .v (.bool b)] else av
theorem lookR_ok {G : Gh} {ok : Bool} {av : AV} {v : Value} {b : Bool} (h : Rv G av v) : Rv G (lookR ok av b) (if ok = true then .tuple #[v, .bool b] else v) := by
  unfold lookR
  cases ok with
  | false => exact h
  | true =>
    refine .tup _ [v, .bool b] rfl fun i hi => ?_
    match i, hi with
    | 0, _ => exact h
    | 1, _ => exact .v _
def foundR (ok : Bool) (xs : List (List AV)) (z : Value) : Option Nat → AV
  | some i => lookR ok ((xs.getD i []).getD 1 .any) true
  | none => lookR ok (.v z) false
theorem zero_one {ti : TI} {t : TypeId} {w : World} (hT : TIok P t ti) (ha : ti.agg = false) : ∃ z, ti.zero = [z] ∧ (zeroValue t).run P w = .ok z w := by
  obtain ⟨i, z, d, h1, h2, h3, h4, h5, h6, _⟩ := hT.i
  have ho := hT.zone ha i z h1 h2
  have hc : z.cells.toList = [z] := by cases z <;> first | rfl | (simp [Value.oneCell'] at ho)
  exact ⟨z, h4.symm.trans hc, by simp [zeroValue, typeInfo, h1, h2]⟩
theorem ok_lookup {t kt et : TypeId} {d : TypeDesc} {ti : TI} {x y : Operand} {ok : Bool} {k : Nat} {ob : AObj} {kv : Value} {r : Option Nat} (hu : P.underlying t = some (.map kt et)) (hd : P.underlying kt = some d) (hT : TIok P et ti) (ha : ti.agg = false)
    (ho : o.op = .lookup t x y ok) (hx : σ.ev x = some (.mp k)) (hy : σ.ev y = some (.v kv)) (hk : lk σ.objs k = some ob) (hz : ob.sz = 0) (hkey : isKeyB d kv = true) (hf : findA d kv ob.xs 0 = some r) :
    CoreOk P o σ (foundR ok ob.xs (ti.zero.getD 0 undef) r, []) :=
  CoreOk.pure fun B G w a hr => by
    obtain ⟨b, base, cap, hl, hv, es, clock, h1, h2, h3, h4⟩ := hr.mapAt (hr.ev hx) hk hz
    have hyv := (hr.ev hy).v_eq
    have hfind := findA_ok (es := es.toList) (by simpa using h3) (fun j hj => by
      obtain ⟨e, k', av, a1, a2, a3, _⟩ := h4 j hj
      exact ⟨e, k', av, by simpa using a1, a2, a3⟩) hf
    have hk' := isKeyB_ok hkey
    obtain ⟨z, hz1, hz2⟩ := zero_one (w := w) hT ha
    cases r with
    | none =>
      obtain ⟨f1, _⟩ := hfind
      refine ⟨if ok = true then .tuple #[z, .bool false] else z, ?_, (lookR_ok (by rw [hz1]; exact .v _) : Rv G (lookR ok (.v (ti.zero.getD 0 undef)) false) _)⟩
      unfold execOp
      rw [ho]
      cases ok <;> simp [Instr.lookup, hv, hyv, run_underlying hu, MapKept.run_getObj_map h1, MapKept.run_checkKey hd hk', MapKept.run_findKey hd f1, hz2]
    | some m =>
      obtain ⟨j, e, rfl, f2, f3, f1⟩ := hfind
      obtain ⟨g1, g2⟩ := findA_row hf
      obtain ⟨e', k', av, a1, a2, a3, a4, a5⟩ := h4 (0 + j) (by omega)
      have : e' = e := by simp at f2 a1; rw [f2] at a1; cases a1; rfl
      subst this
      refine ⟨if ok = true then .tuple #[e'.val, .bool true] else e'.val, ?_, (lookR_ok (by rw [a2]; exact a5) : Rv G (lookR ok ((ob.xs.getD (0 + j) []).getD 1 .any) true) _)⟩
      unfold execOp
      rw [ho]
      cases ok <;> simp [Instr.lookup, hv, hyv, run_underlying hu, MapKept.run_getObj_map h1, MapKept.run_checkKey hd hk', MapKept.run_findKey hd f1]
def putM (xs : List (List AV)) (r : Option Nat) (kv : Value) (av : AV) : List (List AV) := match r with
  | some i => xs.set i [.v kv, av]
  | none => xs ++ [[.v kv, av]]
theorem ok_mapUpdate {t kt et : TypeId} {d : TypeDesc} {x y z : Operand} {k : Nat} {ob : AObj} {kv : Value} {av : AV} {r : Option Nat} (hu : P.underlying t = some (.map kt et)) (hd : P.underlying kt = some d)
    (ho : o.op = .mapUpdate t x y z) (hx : σ.ev x = some (.mp k)) (hy : σ.ev y = some (.v kv)) (hzv : σ.ev z = some av) (hc : av.cell = true) (hk : lk σ.objs k = some ob) (hz : ob.sz = 0) (hkey : isKeyB d kv = true) (hf : findA d kv ob.xs 0 = some r) :
    CoreOk P o σ (.v undef, [(k, some { ob with xs := putM ob.xs r kv av })]) := by
  intro B G w a hr K Q hK
  obtain ⟨b, base, cap, hl, hv, es, clock, h1, h2, h3, h4⟩ := hr.mapAt (hr.ev hx) hk hz
  have hyv := (hr.ev hy).v_eq
  have hfind := findA_ok (es := es.toList) (by simpa using h3) (fun j hj => by
    obtain ⟨e, k', av, a1, a2, a3, _⟩ := h4 j hj
    exact ⟨e, k', av, by simpa using a1, a2, a3⟩) hf
  have hk' := isKeyB_ok hkey
  have hval := hr.ev hzv
  have hone := hval.one hc
  have hlt : b < w.heap.size := (Array.getElem?_eq_some_iff.1 h1).1
  unfold Oper.wp
  cases r with
  | none =>
    obtain ⟨f1, f2⟩ := hfind
    have hrun : (execOp a.eval o).run P w = .ok .skip { w with heap := w.heap.setIfInBounds b (.map (es.push { key := kv, val := a.eval z, born := clock }) (clock + 1)) } := by
      unfold execOp
      rw [ho]
      simp [Instr.mapUpdate, hv, hyv, run_underlying hu, MapKept.run_getObj_map h1, MapKept.run_checkKey hd hk', MapKept.run_findKey hd f1, MapKept.run_setObj_map _ h1]
    rw [hrun]
    refine hK G _ undef (Gh.le.refl G) (hr.writeMap hk hz hl h1 ⟨_, _, (MapKept.heap_set h1).1, MapKept.stamped_push h2 f2, by simp [putM, h3], fun i hi => ?_⟩) (.v _)
    simp only [putM, List.length_append, List.length_singleton] at hi
    by_cases hil : i < ob.xs.length
    · obtain ⟨e, k', av', a1, a2, a3⟩ := h4 i hil
      refine ⟨e, k', av', ?_, ?_, a3⟩
      · rw [Array.getElem?_push, if_neg (by omega)]; exact a1
      · simpa [putM, List.getD, List.getElem?_append_left hil] using a2
    · obtain rfl : i = ob.xs.length := by omega
      refine ⟨{ key := kv, val := a.eval z, born := clock }, kv, av, ?_, ?_, rfl, hone, hval⟩
      · rw [Array.getElem?_push, if_pos h3.symm]
      · simp [putM, List.getD]
  | some m =>
    obtain ⟨j, e, rfl, f2, f3, f1⟩ := hfind
    obtain ⟨_, g2⟩ := findA_row hf
    have hj : es[j]? = some e := by simpa using f2
    have hrun : (execOp a.eval o).run P w = .ok .skip { w with heap := w.heap.setIfInBounds b (.map (es.modify (0 + j) fun e => { e with key := kv, val := a.eval z }) clock) } := by
      unfold execOp
      rw [ho]
      simp [Instr.mapUpdate, hv, hyv, run_underlying hu, MapKept.run_getObj_map h1, MapKept.run_checkKey hd hk', MapKept.run_findKey hd f1, hj, f3, MapKept.run_keyThatStays hk', MapKept.run_setObj_map _ h1]
    rw [hrun]
    have hkeys : ∀ e', es[0 + j]? = some e' → ({ e' with key := kv, val := a.eval z } : MapEntry).key = e'.key := fun e' he' => by rw [Nat.zero_add, hj] at he'; cases he'; exact f3.symm
    refine hK G _ undef (Gh.le.refl G) (hr.writeMap hk hz hl h1 ⟨_, _, (MapKept.heap_set h1).1, MapKept.stamped_modify h2 _ _ (fun _ _ => rfl) (fun e' _ he' => hkeys e' he'), by simp [putM, h3], fun i hi => ?_⟩) (.v _)
    simp only [putM, List.length_set] at hi
    obtain ⟨e1, k', av', a1, a2, a3, a4, a5⟩ := h4 i hi
    by_cases hij : 0 + j = i
    · subst hij
      refine ⟨{ e1 with key := kv, val := a.eval z }, kv, av, ?_, ?_, rfl, hone, hval⟩
      · rw [Array.getElem?_modify, if_pos rfl, a1]; rfl
      · simp only [putM, List.getD, List.getElem?_set, if_pos hi]; simp
    · refine ⟨e1, k', av', ?_, ?_, a3, a4, a5⟩
      · rw [Array.getElem?_modify, if_neg hij]; exact a1
      · have hij' : j ≠ i := by omega
        simpa [putM, List.getD, List.getElem?_set, hij'] using a2
def delM (xs : List (List AV)) (r : Option Nat) : List (List AV) := match r with
  | some i => xs.eraseIdx i
  | none => xs
theorem ok_delete {t kt et t2 : TypeId} {d : TypeDesc} {x y : Operand} {k : Nat} {ob : AObj} {kv : Value} {r : Option Nat} (hu : P.underlying t = some (.map kt et)) (hd : P.underlying kt = some d)
    (ho : o.op = .call { callee := .builtin .delete, args := #[x, y], argTypes := #[t, t2] }) (hx : σ.ev x = some (.mp k)) (hy : σ.ev y = some (.v kv)) (hk : lk σ.objs k = some ob) (hz : ob.sz = 0) (hkey : isKeyB d kv = true) (hf : findA d kv ob.xs 0 = some r) :
    CoreOk P o σ (.v (.tuple #[]), [(k, some { ob with xs := delM ob.xs r })]) := by
  intro B G w a hr K Q hK
  obtain ⟨b, base, cap, hl, hv, es, clock, h1, h2, h3, h4⟩ := hr.mapAt (hr.ev hx) hk hz
  have hyv := (hr.ev hy).v_eq
  have hfind := findA_ok (es := es.toList) (by simpa using h3) (fun j hj => by
    obtain ⟨e, k', av, a1, a2, a3, _⟩ := h4 j hj
    exact ⟨e, k', av, by simpa using a1, a2, a3⟩) hf
  have hk' := isKeyB_ok hkey
  unfold Oper.wp
  cases r with
  | none =>
    obtain ⟨f1, f2⟩ := hfind
    have hrun : (execOp a.eval o).run P w = .ok (.value (.tuple #[])) { w with heap := w.heap.setIfInBounds b (.map es clock) } := by
      unfold execOp
      rw [ho]
      simp [resolve, invoke, builtin, Builtin.delete_, hv, hyv, run_underlying hu, MapKept.run_getObj_map h1, MapKept.run_checkKey hd hk', MapKept.run_findKey hd f1, MapKept.run_setObj_map _ h1]
    rw [hrun]
    exact hK G _ _ (Gh.le.refl G) (hr.writeMap hk hz hl h1 ⟨es, clock, (MapKept.heap_set h1).1, h2, h3, h4⟩) (.v _)
  | some m =>
    obtain ⟨j, e, rfl, f2, f3, f1⟩ := hfind
    obtain ⟨_, g2⟩ := findA_row hf
    have hj : es[j]? = some e := by simpa using f2
    have hrun : (execOp a.eval o).run P w = .ok (.value (.tuple #[])) { w with heap := w.heap.setIfInBounds b (.map (es.eraseIdxIfInBounds (0 + j)) clock) } := by
      unfold execOp
      rw [ho]
      simp [resolve, invoke, builtin, Builtin.delete_, hv, hyv, run_underlying hu, MapKept.run_getObj_map h1, MapKept.run_checkKey hd hk', MapKept.run_findKey hd f1, MapKept.run_setObj_map _ h1]
    rw [hrun]
    have hjs : 0 + j < es.size := by omega
    have her : es.eraseIdxIfInBounds (0 + j) = es.eraseIdx (0 + j) hjs := by unfold Array.eraseIdxIfInBounds; rw [dif_pos hjs]
    refine hK G _ _ (Gh.le.refl G) (hr.writeMap hk hz hl h1 ⟨_, clock, (MapKept.heap_set h1).1, MapKept.stamped_erase h2 _, by rw [her]; simp [delM, List.length_eraseIdx, h3, show j < ob.xs.length by omega], fun i hi => ?_⟩) (.v _)
    simp only [delM, List.length_eraseIdx] at hi
    rw [if_pos (by omega)] at hi
    have hge : ∀ q : Nat, (es.eraseIdxIfInBounds (0 + j))[q]? = if q < 0 + j then es[q]? else es[q + 1]? := fun q => by
      rw [her, Array.getElem?_eraseIdx]
    have hgx : ∀ q : Nat, (ob.xs.eraseIdx (0 + j)).getD q [] = if q < 0 + j then ob.xs.getD q [] else ob.xs.getD (q + 1) [] := fun q => by
      simp only [List.getD, List.getElem?_eraseIdx]
      split <;> rfl
    simp only [delM, hge, hgx]
    split
    · exact h4 i (by omega)
    · exact h4 (i + 1) (by omega)
theorem ok_lenMap {t kt et : TypeId} {x : Operand} {k : Nat} {ob : AObj} (hu : P.underlying t = some (.map kt et)) (ho : o.op = .call { callee := .builtin .len, args := #[x], argTypes := #[t] }) (hx : σ.ev x = some (.mp k)) (hk : lk σ.objs k = some ob) (hz : ob.sz = 0) :
    CoreOk P o σ (.v (.int .i64 (ob.xs.length : Int)), []) :=
  CoreOk.pure fun B G w a hr => by
    obtain ⟨b, base, cap, hl, hv, es, clock, h1, h2, h3, h4⟩ := hr.mapAt (hr.ev hx) hk hz
    refine ⟨_, ?_, .v _⟩
    unfold execOp
    rw [ho]
    simp [resolve, invoke, builtin, Builtin.len_, hv, run_underlying hu, MapKept.run_getObj_map h1, goInt, h3]
theorem ok_lenNilMap {t kt et : TypeId} {x : Operand} (hu : P.underlying t = some (.map kt et)) (ho : o.op = .call { callee := .builtin .len, args := #[x], argTypes := #[t] }) (hx : σ.ev x = some (.v (.map none))) : CoreOk P o σ (.v (.int .i64 0), []) :=
  CoreOk.pure fun B G w a hr => by
    have hv := (hr.ev hx).v_eq
    refine ⟨_, ?_, .v _⟩
    unfold execOp
    rw [ho]
    simp [resolve, invoke, builtin, Builtin.len_, hv, run_underlying hu, goInt]
theorem ok_lenStr {t : TypeId} {x : Operand} {s : ByteArray} (hu : P.underlying t = some .string) (ho : o.op = .call { callee := .builtin .len, args := #[x], argTypes := #[t] }) (hx : σ.ev x = some (.v (.string s))) : CoreOk P o σ (.v (.int .i64 (s.size : Int)), []) :=
  CoreOk.pure fun B G w a hr => by
    have hv := (hr.ev hx).v_eq
    refine ⟨_, ?_, .v _⟩
    unfold execOp
    rw [ho]
    simp [resolve, invoke, builtin, Builtin.len_, hv, run_underlying hu, goInt]
theorem ok_mapnil {neg : Bool} {t yt kt et : TypeId} {x : Operand} {av : AV} {b : Bool} (hp : (∃ k, av = .mp k ∧ b = false) ∨ (av = .v (.map none) ∧ b = true)) (hu : P.underlying t = some (.map kt et)) (ho : o.op = .binOp (if neg then .neq else .eql) t x (.const (.map none)) yt) (hx : σ.ev x = some av) :
    CoreOk P o σ (.v (.bool (if neg then !b else b)), []) :=
  CoreOk.pure fun B G w a hr => by
    have h1 := hr.ev hx
    obtain ⟨m, hv, hb⟩ : ∃ m, a.eval x = .map m ∧ m.isNone = b := by
      rcases hp with ⟨k, rfl, rfl⟩ | ⟨rfl, rfl⟩
      · obtain ⟨b, _, _, h⟩ := mp_inv h1; exact ⟨_, h, rfl⟩
      · exact ⟨none, h1.v_eq, rfl⟩
    have heq : ∀ w, (Op.equal t (.map m) (.map none)).run P w = .ok m.isNone w := fun w => by
      have : ∀ d, (Op.equalIn (d + 1) t (.map m) (.map none)).run P w = .ok m.isNone w := fun d => by
        cases m <;> simp [Op.equalIn, run_underlying hu]
      exact this 9999
    have hc0 : a.eval (.const (.map none)) = .map none := rfl
    refine ⟨.bool (if neg then !b else b), ?_, .v _⟩
    subst hb
    unfold execOp
    rw [ho]
    cases neg
    · simp [hv, hc0, eqGuard, binOp, heq]
    · simp [hv, hc0, eqGuard, binOp, heq]
/-! ### Bytes and strings -/
def rowB : List AV → Option Int
  | [.v (.int .u8 n)] => some n
  | _ => none
def bytesOf : List (List AV) → Option (List Int)
  | [] => some []
  | r :: rs => match rowB r, bytesOf rs with
    | some n, some ns => some (n :: ns)
    | _, _ => none
theorem rowB_inv {r : List AV} {n : Int} (h : rowB r = some n) : r = [.v (.int .u8 n)] := by
  unfold rowB at h
  split at h
  · cases h; rfl
  · cases h
theorem bytesOf_get : ∀ {ys : List (List AV)} {ns : List Int}, bytesOf ys = some ns → ns.length = ys.length ∧ ∀ i, i < ys.length → ys.getD i [] = [.v (.int .u8 (ns.getD i 0))]
  | [], ns, h => by simp only [bytesOf, Option.some.injEq] at h; subst h; exact ⟨rfl, fun i hi => by simp at hi⟩
  | r :: rs, ns, h => by
    simp only [bytesOf] at h
    split at h
    · rename_i n ns' h1 h2
      cases h
      obtain ⟨h3, h4⟩ := bytesOf_get h2
      refine ⟨by simp [h3], fun i hi => ?_⟩
      cases i with
      | zero => simpa using rowB_inv h1
      | succ i => simpa using h4 i (by simpa using hi)
    · cases h
theorem ok_bytesStr {s t e : TypeId} {ti : TI} {eb : Nat} {ez : List Value} {x : Operand} {av : AV} {ys : List (List AV)} {ns : List Int} (hT : TIok P s ti) (hk : ti.kind = .slice e 1 eb ez) (he : P.underlying e = some (.int .u8)) (ht : P.underlying t = some .string)
    (ho : o.op = .convert s t x) (hx : σ.ev x = some av) (hys : σ.rows 1 av = some ys) (hb : bytesOf ys = some ns) : CoreOk P o σ (.v (.string (strOfNums ns)), []) :=
  CoreOk.pure fun B G w a hr => by
    obtain ⟨_, _, d, _, _, h3, _, _, _, hkk⟩ := hT.i
    rw [hk] at hkk
    obtain ⟨rfl, _⟩ := hkk
    obtain ⟨ad, m, c, hv, hm, had, hrow, f, hf1, hf2⟩ := hr.rows (hr.ev hx) Nat.one_pos hys
    obtain ⟨g1, g2⟩ := bytesOf_get hb
    refine ⟨_, ?_, .v _⟩
    have key : (convert s t (.slice ad m c)).run P w = .ok (.string (strOfNums ns)) w := by
      cases ad with
      | none =>
        have hm0 : m = 0 := by
          rcases Nat.eq_zero_or_pos m with h | h
          · exact h
          · obtain ⟨x, hx⟩ := had h; cases hx
        have : ns = [] := List.eq_nil_of_length_eq_zero (by omega)
        subst this
        rw [run_convert_bytes_nil w s e h3 he m c t ht]
        rfl
      | some x =>
        have hl : (loadCells x m).run P w = .ok (ns.map (Value.int .u8)).toArray w := by
          have := run_loadCells_list (P := P) w x (ns.map (Value.int .u8)) (fun j v hj => by
            have hjl : j < ns.length := by
              rcases Nat.lt_or_ge j ns.length with h | h
              · exact h
              · simp [List.getElem?_eq_none (show (ns.map (Value.int .u8)).length ≤ j by simpa using h)] at hj
            rw [hf1 x j rfl (by omega)]
            obtain ⟨_, h2⟩ := hf2 j 0 (by omega) Nat.one_pos
            rw [g2 j (by omega)] at h2
            have h4 := h2.v_eq
            rw [show j * 1 + 0 = j by omega] at h4
            rw [h4]
            simp [List.getElem?_eq_getElem hjl] at hj
            subst hj
            simp [List.getD, List.getElem?_eq_getElem hjl])
          simpa [g1, hm] using this
        rw [run_convert_bytes_string w s t e _ m c h3 he ht, run_bytesToString w _ m c ns hl, foldl_push_bytes]
        simp [strOfNums, ByteArray.empty, ByteArray.emptyWithCapacity]
        rfl
    unfold execOp
    rw [ho]
    simp only [hv, Sem.run_bind, key, Result.andThen_ok, Sem.run_pure]
end ops
end Go.Proofs.YtafikekndefjcaaDoor
/- Am12: An abstract machine for the text, part twelve: one operation, computed; plain lemmas over any program; no condition. -/
namespace Go.Proofs.YtafikekndefjcaaDoor
set_option linter.unusedVariables false
set_option linter.unusedSimpArgs false
set_option linter.unusedSectionVars false
open Go.RowKit

abbrev PTab := FuncId → List AV → Option (AV × Bool)
def PTok (P : Program) (PT : PTab) : Prop := ∀ f args r fresh, PT f args = some (r, fresh) → fnB P f = true ∧ FnPure P f args r ∧ (fresh = true → FnFresh P f args r)

section core
variable (TT : TTab) (PT : PTab) (σ : AS) (id : Nat)

def cPick (c x y : Operand) : Option Res :=
  match σ.ev c with
  | some (.v (.bool t)) => (σ.ev (if t then x else y)).map fun a => (a, [])
  | _ => none
def cAlloc (t : TypeId) : Option Res :=
  match TT t with
  | some ti => if id ∈ σ.ids then none else some (.ptr id 0 0, [(id, some ⟨t, ti.size, [ti.zero.map .v]⟩)])
  | none => none
def cBox (t : TypeId) (x : Operand) : Option Res :=
  match TT t, σ.ev x with
  | some ti, some av => if av.flat = true ∧ av.cells.length = ti.size ∧ id ∉ σ.ids then some (.ptr id 0 0, [(id, some ⟨t, ti.size, [av.cells]⟩)]) else none
  | _, _ => none
def cBuild (t : TypeId) (ps : List (Nat × Operand)) : Option Res :=
  match TT t, σ.parts ps with
  | some ti, some l =>
    match ti.kind with
    | .strct fs => (fillA (fun i => (fs[i]?).map fun x : Nat × Nat × Bool => (x.1, x.2.1)) (ti.zero.map .v) l).map fun out => (.agg out, [])
    | .arr _ esz _ => (fillA (fun i => some (i * esz, esz)) (ti.zero.map .v) l).map fun out => (.agg out, [])
    | _ => none
  | _, _ => none
def cBuildS (t : TypeId) (n : Nat) (ps : List (Nat × Operand)) : Option Res :=
  match TT t, σ.parts ps with
  | some ti, some l =>
    match ti.kind with
    | .slice e esz _ ez =>
      match fillA (fun i => some (i * esz, esz)) (zeros ez (n * esz)) l with
      | some out => if n * esz ≤ 16777216 ∧ 0 < esz ∧ id ∉ σ.ids then some (.ref id 0 n, [(id, some ⟨e, esz, chunk esz n out⟩)]) else none
      | none => none
    | _ => none
  | _, _ => none
def cLoad (t : TypeId) (x : Operand) : Option Res :=
  match TT t, σ.ev x with
  | some ti, some (.ptr k e j) =>
    match lk σ.objs k with
    | some ob => if e < ob.xs.length ∧ j + ti.size ≤ ob.sz then some (ldA ti ((ob.xs.getD e []).drop j), []) else none
    | none => none
  | some ti, some (.pt cs) => if ti.size ≤ cs.length then some (ldA ti cs, []) else none
  | _, _ => none
def cStore (t : TypeId) (p x : Operand) : Option Res :=
  match TT t, σ.ev p, σ.ev x with
  | some ti, some (.ptr k e j), some av =>
    match lk σ.objs k with
    | some ob => if e < ob.xs.length ∧ j + ti.size ≤ ob.sz ∧ av.flat = true ∧ av.cells.length = ti.size then some (.v undef, [(k, some { ob with xs := ob.xs.set e (spl (ob.xs.getD e []) j av.cells) })]) else none
    | none => none
  | _, _, _ => none
def cNil (x : Operand) : Option Res :=
  match σ.ev x with
  | some (.ptr k e j) => some (.ptr k e j, [])
  | some (.pt cs) => some (.pt cs, [])
  | _ => none
def plainOf (t : TypeId) : Option TypeDesc :=
  match TT t with
  | some ti => match ti.kind with
    | .plain d => some d
    | _ => none
  | none => none
def cNilS (op : BinOp) (t : TypeId) (x : Operand) : Option Res :=
  match TT t, σ.ev x with
  | some ti, some av => match ti.kind, nilA av with
    | .slice _ _ _ _, some b => match op with
      | .eql => some (.v (.bool b), [])
      | .neq => some (.v (.bool !b), [])
      | _ => none
    | _, _ => none
  | _, _ => none
def cBin (op : BinOp) (t : TypeId) (x y : Operand) : Option Res :=
  if isNilS y = true then cNilS TT σ op t x else
  match σ.ev x, σ.ev y with
  | some (.v u), some (.v v) =>
    match sc2 (plainOf TT t) op u v with
    | some r => some (.v r, [])
    | none => match op, u, y, plainOf TT t with
      | .eql, .pointer none, .const (.pointer none), some (.pointer _) => some (.v (.bool true), [])
      | .neq, .pointer none, .const (.pointer none), some (.pointer _) => some (.v (.bool false), [])
      | _, _, _, _ => none
  | some (.agg cs), some (.agg ds) =>
    match TT t with
    | some ti => match ti.kind, ti.eqk with
      | .arr len _ _, some b => if cs.length = len then match op with
        | .eql => (eqAll b cs ds).map fun r => (.v (.bool r), [])
        | .neq => (eqAll b cs ds).map fun r => (.v (.bool !r), [])
        | _ => none
        else none
      | _, _ => none
    | none => none
  | some (.ptr _ _ _), _ => match op, y, plainOf TT t with
    | .eql, .const (.pointer none), some (.pointer _) => some (.v (.bool false), [])
    | .neq, .const (.pointer none), some (.pointer _) => some (.v (.bool true), [])
    | _, _, _ => none
  | _, _ => none
def cUn (op : UnOp) (x : Operand) : Option Res :=
  match σ.ev x with
  | some (.v u) => (sc1 op u).map fun r => (.v r, [])
  | _ => none
def cConv (s t : TypeId) (x : Operand) : Option Res :=
  match σ.ev x, TT s, plainOf TT t with
  | some (.v (.int _ n)), some _, some (.int k) => some (.v (.int k (k.wrap n)), [])
  | _, _, _ => none
def cConvB (s t : TypeId) (x : Operand) : Option Res :=
  match TT s, σ.ev x, plainOf TT t with
  | some ti, some av, some .string => match ti.kind with
    | .slice e 1 _ _ => match plainOf TT e, σ.rows 1 av with
      | some (.int .u8), some ys => (bytesOf ys).map fun ns => (.v (.string (strOfNums ns)), [])
      | _, _ => none
    | _ => none
  | _, _, _ => none
def cConvX (s t : TypeId) (x : Operand) : Option Res :=
  match cConv TT σ s t x with
  | some r => some r
  | none => cConvB TT σ s t x
def cMake (t : TypeId) (x y : Operand) : Option Res :=
  match TT t, σ.ev x, σ.ev y with
  | some ti, some (.v (.int _ n)), some (.v (.int _ m)) =>
    match ti.kind with
    | .slice e esz eb ez => if n = m ∧ 0 ≤ n ∧ (eb : Int) * n ≤ 281474976710656 ∧ n ≤ 9223372036854775807 ∧ 0 < esz ∧ id ∉ σ.ids then some (.ref id 0 n.toNat, [(id, some ⟨e, esz, List.replicate n.toNat (ez.map .v)⟩)]) else none
    | _ => none
  | _, _, _ => none
def slA (av : AV) (esz : Nat) (lo hi : Option Operand) : Option Res :=
  match av with
  | .sl s xs => match bndA σ xs.length lo hi with
    | some (l, h) => if s = esz then some (.sl esz ((xs.drop l).take (h - l)), []) else none
    | none => none
  | .ref k off n => match bndA σ n lo hi, lk σ.objs k with
    | some (l, h), some ob => if ob.sz = esz then some (.ref k (off + l) (h - l), []) else none
    | _, _ => none
  | _ => none
def cSlice (t : TypeId) (x : Operand) (lo hi : Option Operand) : Option Res :=
  match TT t, σ.ev x with
  | some ti, some av => match ti.kind with
    | .slice _ esz _ _ => slA σ av esz lo hi
    | _ => none
  | _, _ => none
def cFA (t : TypeId) (x : Operand) (i : Nat) : Option Res :=
  match TT t, σ.ev x with
  | some ti, some av =>
    match ti.kind with
    | .strct fs => match fs[i]? with
      | some (off, sz, _) => if sz = 0 then none else match av with
        | .ptr k e j => some (.ptr k e (j + off), [])
        | .pt cs => some (.pt (cs.drop off), [])
        | _ => none
      | none => none
    | _ => none
  | _, _ => none
def cF (t : TypeId) (x : Operand) (i : Nat) : Option Res :=
  match TT t, σ.ev x with
  | some ti, some (.agg cs) =>
    match ti.kind with
    | .strct fs => match fs[i]? with
      | some (off, sz, g) => if off + sz ≤ cs.length ∧ (g = true ∨ sz = 1) then some (if g then .agg ((cs.drop off).take sz) else cs.getD off .any, []) else none
      | none => none
    | _ => none
  | _, _ => none
def idxA (av : AV) (esz : Nat) (i : Value) : Option Res :=
  match av with
  | .sl s xs => if s = esz then (ixOk i xs.length).map fun m => (.pt (xs.getD m []), []) else none
  | .ref k off n => match lk σ.objs k with
    | some ob => if ob.sz = esz then (ixOk i n).map fun m => (.ptr k (off + m) 0, []) else none
    | none => none
  | _ => none
def cIA (t : TypeId) (x y : Operand) : Option Res :=
  match TT t, σ.ev x, σ.ev y with
  | some ti, some av, some (.v i) =>
    match ti.kind with
    | .slice _ esz _ _ => idxA σ av esz i
    | .arr len esz _ => match av with
      | .ptr k e j => (ixOk i len).map fun m => (.ptr k e (j + m * esz), [])
      | .pt cs => (ixOk i len).map fun m => (.pt (cs.drop (m * esz)), [])
      | _ => none
    | _ => none
  | _, _, _ => none
def cI (t : TypeId) (x y : Operand) : Option Res :=
  match TT t, σ.ev x, σ.ev y with
  | some ti, some (.agg cs), some (.v i) =>
    match ti.kind with
    | .arr len esz g => if g = false ∧ esz = 1 ∧ len ≤ cs.length then (ixOk i len).map fun m => (cs.getD m .any, []) else none
    | _ => none
  | _, _, _ => none
def cIS (t : TypeId) (s : ByteArray) (y : Operand) : Option Res :=
  match plainOf TT t, σ.ev y with
  | some .string, some (.v (.int _ z)) => if 0 ≤ z then match s[z.toNat]? with
      | some b => some (.v (.int .u8 b.toNat), [])
      | none => none
    else none
  | _, _ => none
def cIX (t : TypeId) (x y : Operand) : Option Res :=
  match σ.ev x with
  | some (.v (.string s)) => cIS TT σ t s y
  | _ => cI TT σ t x y
def cExt (x : Operand) (i : Nat) : Option Res :=
  match σ.ev x with
  | some (.tup cs) => (cs[i]?).map fun a => (a, [])
  | _ => none
def lenM (d : TypeDesc) (av : AV) : Option Nat :=
  match d, av with
  | .map _ _, .mp k => match lk σ.objs k with
    | some ob => if ob.sz = 0 then some ob.xs.length else none
    | none => none
  | .map _ _, .v (.map none) => some 0
  | .string, .v (.string s) => some s.size
  | _, _ => none
def cLen (t : TypeId) (x : Operand) : Option Res :=
  match TT t, σ.ev x with
  | some ti, some av => match ti.kind with
    | .slice _ _ _ _ => (lenA av).map fun n : Nat => (.v (.int .i64 (n : Int)), [])
    | .plain d => (lenM σ d av).map fun n : Nat => (.v (.int .i64 (n : Int)), [])
    | _ => none
  | _, _ => none
def isNilM : Operand → Bool
  | .const (.map none) => true
  | _ => false
def nilM : AV → Option Bool
  | .mp _ => some false
  | .v (.map none) => some true
  | _ => none
def cNilM (op : BinOp) (t : TypeId) (x : Operand) : Option Res :=
  match plainOf TT t, σ.ev x with
  | some (.map _ _), some av => match nilM av, op with
    | some b, .eql => some (.v (.bool b), [])
    | some b, .neq => some (.v (.bool !b), [])
    | _, _ => none
  | _, _ => none
def hintB (x : Option Operand) : Bool := match x with
  | none => true
  | some y => match σ.ev y with
    | some (.v (.int _ _)) => true
    | _ => false
def cMakeM (t : TypeId) (x : Option Operand) : Option Res :=
  match plainOf TT t with
  | some (.map _ _) => if hintB σ x = true ∧ id ∉ σ.ids then some (.mp id, [(id, some ⟨t, 0, []⟩)]) else none
  | _ => none
def cMapK (t : TypeId) (x : Operand) (kv : Value) : Option (Nat × AObj × Option Nat × TypeId) :=
  match plainOf TT t, σ.ev x with
  | some (.map kt et), some (.mp k) => match lk σ.objs k, plainOf TT kt with
    | some ob, some d => if ob.sz = 0 ∧ isKeyB d kv = true then (findA d kv ob.xs 0).map fun r => (k, ob, r, et) else none
    | _, _ => none
  | _, _ => none
def cLook (t : TypeId) (x y : Operand) (ok : Bool) : Option Res :=
  match σ.ev y with
  | some (.v kv) => match cMapK TT σ t x kv with
    | some (_, ob, r, et) => match TT et with
      | some ti => if ti.agg = false then some (foundR ok ob.xs (ti.zero.getD 0 undef) r, []) else none
      | none => none
    | none => none
  | _ => none
def cUpd (t : TypeId) (x y z : Operand) : Option Res :=
  match σ.ev y, σ.ev z with
  | some (.v kv), some av => match cMapK TT σ t x kv with
    | some (k, ob, r, _) => if av.cell = true then some (.v undef, [(k, some { ob with xs := putM ob.xs r kv av })]) else none
    | none => none
  | _, _ => none
def cDel (t : TypeId) (x y : Operand) : Option Res :=
  match σ.ev y with
  | some (.v kv) => match cMapK TT σ t x kv with
    | some (k, ob, r, _) => some (.v (.tuple #[]), [(k, some { ob with xs := delM ob.xs r })])
    | none => none
  | _ => none
def cApp (t : TypeId) (s x : Operand) : Option Res :=
  match TT t, σ.ev s, σ.ev x with
  | some ti, some sv, some av =>
    match ti.kind with
    | .slice e esz eb _ =>
      match σ.rows esz av with
      | some ys =>
        match sv with
        | .ref k off n => match lk σ.objs k with
          | some ob => if ob.sz = esz ∧ ob.t = e ∧ off + n = ob.xs.length ∧ (n + ys.length) * eb ≤ 140737488355328 ∧ 0 < eb ∧ id ∉ σ.ids then
              some (.ref id 0 (n + ys.length), [(k, none), (id, some ⟨ob.t, ob.sz, ob.xs.drop off ++ ys⟩)]) else none
          | none => none
        | .v (.slice none 0 0) => if ys.length * eb ≤ 140737488355328 ∧ 0 < eb ∧ 0 < ys.length ∧ id ∉ σ.ids then some (.ref id 0 ys.length, [(id, some ⟨e, esz, ys⟩)]) else none
        | _ => none
      | none => none
    | _ => none
  | _, _, _ => none
def cMM (mx : Bool) (x y : Operand) : Option Res :=
  match σ.ev x, σ.ev y with
  | some (.v (.int k a)), some (.v (.int _ b)) => some (.v (.int k (if mx then (if b > a then b else a) else (if b < a then b else a))), [])
  | _, _ => none
def cFun (f : FuncId) (avs : List AV) : Option Res :=
  if idsL avs = [] then (PT f avs).map fun r => (r.1, [])
  else match σ.shutM (fun _ => true) avs with
    | some bvs => match PT f bvs with
      | some r => if r.2 = true ∨ r.1.scalar = true then some (r.1, []) else none
      | none => none
    | none => none
def cCall (c : Call) : Option Res :=
  match c.callee with
  | .builtin b =>
    match b, c.args.toList, c.argTypes.toList with
    | .len, [x], [t] => cLen TT σ t x
    | .append, [s, x], [t, u] => if t = u then cApp TT σ id t s x else none
    | .max, [x, y], _ => cMM σ true x y
    | .min, [x, y], _ => cMM σ false x y
    | .delete, [x, y], [t, _] => cDel TT σ t x y
    | _, _, _ => none
  | .value x => match σ.evs c.args.toList with
    | some avs => match σ.entry x avs with
      | some (f, L) => cFun PT σ f L
      | none => none
    | none => none
  | _ => none
def core (o : Oper) : Option Res :=
  match o.op with
  | .move x => (σ.ev x).map fun a => (a, [])
  | .assign x => (σ.ev x).map fun a => (a, [])
  | .pick c x y => cPick σ c x y
  | .alloc t => cAlloc TT σ id t
  | .box t x => cBox TT σ id t x
  | .build t ps => cBuild TT σ t ps.toList
  | .buildSlice t n ps => cBuildS TT σ id t n ps.toList
  | .load t x => cLoad TT σ t x
  | .store t p x => cStore TT σ t p x
  | .nilCheck x => cNil σ x
  | .binOp op t x y _ => if isNilM y = true then cNilM TT σ op t x else cBin TT σ op t x y
  | .unOp op _ x => cUn σ op x
  | .convert s t x => cConvX TT σ s t x
  | .makeFunc (.func f) first cap => if first.size = 0 then (σ.evs cap.toList).map fun l => (.clo f l, []) else if cap.size = 0 then (σ.evs first.toList).map fun l => (.bnd f l, []) else none
  | .makeSlice t x y => cMake TT σ id t x y
  | .slice t x lo hi none => cSlice TT σ t x lo hi
  | .fieldAddr t x i => cFA TT σ t x i
  | .field t x i => cF TT σ t x i
  | .indexAddr t x y => cIA TT σ t x y
  | .index t x y => cIX TT σ t x y
  | .extract x i => cExt σ x i
  | .call c => cCall TT PT σ id c
  | .makeMap t x => cMakeM TT σ id t x
  | .lookup t x y ok => cLook TT σ t x y ok
  | .mapUpdate t x y z => cUpd TT σ t x y z
  | _ => none
end core

section ok
variable {P : Program} {TT : TTab} {PT : PTab} {σ : AS} {id : Nat} {o : Oper} {r : Res}

theorem toList_one {α : Type} {a : Array α} {x : α} (h : a.toList = [x]) : a = #[x] := Array.ext' h
theorem toList_two {α : Type} {a : Array α} {x y : α} (h : a.toList = [x, y]) : a = #[x, y] := Array.ext' h

theorem plainOf_ok (hTT : TTok P TT) {t : TypeId} {d : TypeDesc} (h : plainOf TT t = some d) : P.underlying t = some d := by
  unfold plainOf at h
  split at h
  · rename_i ti hti
    split at h
    · rename_i d' hk
      cases h
      obtain ⟨_, _, d2, _, _, h3, _, _, _, hkk⟩ := (hTT t ti hti).i
      rw [hk] at hkk
      rw [← hkk]; exact h3
    · cases h
  · cases h
theorem core_bin (hTT : TTok P TT) {op : BinOp} {t yt : TypeId} {x y : Operand} (ho : o.op = .binOp op t x y yt) (h : cBin TT σ op t x y = some r) : CoreOk P o σ r := by
  unfold cBin at h
  split at h
  · rename_i hn
    have := isNilS_eq hn
    subst this
    unfold cNilS at h
    split at h
    · rename_i ti av hti hx
      split at h
      · rename_i e esz eb ez b hk hb
        split at h
        · cases h; exact ok_nilS (neg := false) (hTT _ _ hti) hk ho hx hb
        · cases h; exact ok_nilS (neg := true) (hTT _ _ hti) hk ho hx hb
        · cases h
      · cases h
    · cases h
  rename_i hno
  clear hno
  split at h
  · rename_i u v hx hy
    split at h
    · rename_i r' hr
      cases h
      exact ok_bin ho hx hy (fun e he => plainOf_ok hTT he) hr
    · split at h
      · cases h
        exact ok_nilnil (neg := false) (plainOf_ok hTT (by assumption)) ho hx
      · cases h
        exact ok_nilnil (neg := true) (plainOf_ok hTT (by assumption)) ho hx
      · cases h
  · rename_i cs ds hx hy
    split at h
    · rename_i ti hti
      split at h
      · rename_i len esz g b hk he
        split at h
        · rename_i hl
          split at h
          · simp only [Option.map_eq_some_iff] at h
            obtain ⟨r', h1, rfl⟩ := h
            exact ok_eq_arr (neg := false) (hTT _ _ hti) hk he ho hx hy hl h1
          · simp only [Option.map_eq_some_iff] at h
            obtain ⟨r', h1, rfl⟩ := h
            exact ok_eq_arr (neg := true) (hTT _ _ hti) hk he ho hx hy hl h1
          · cases h
        · cases h
      · cases h
    · cases h
  · rename_i k e j hx
    split at h
    · rename_i hpl
      cases h
      exact ok_ptrnil (neg := false) (.inl ⟨_, _, _, rfl⟩) (plainOf_ok hTT hpl) ho hx
    · rename_i hpl
      cases h
      exact ok_ptrnil (neg := true) (.inl ⟨_, _, _, rfl⟩) (plainOf_ok hTT hpl) ho hx
    · cases h
  · cases h
theorem evs_get : ∀ {xs : List Operand} {l : List AV}, σ.evs xs = some l → l.length = xs.length ∧ ∀ (i : Nat) (av : AV), l[i]? = some av → ∃ x, xs[i]? = some x ∧ σ.ev x = some av
  | [], l, h => by simp only [AS.evs, Option.some.injEq] at h; subst h; exact ⟨rfl, fun i av hi => by simp at hi⟩
  | x :: xs, l, h => by
    simp only [AS.evs] at h
    split at h
    · rename_i a l' hx hl
      cases h
      obtain ⟨h1, h2⟩ := evs_get hl
      refine ⟨by simp [h1], fun i av hi => ?_⟩
      cases i with
      | zero => simp at hi; subst hi; exact ⟨x, by simp, hx⟩
      | succ i => simpa using h2 i av (by simpa using hi)
    · cases h
theorem isNilM_eq {y : Operand} (h : isNilM y = true) : y = .const (.map none) := by
  unfold isNilM at h
  split at h
  · rfl
  · cases h
theorem nilM_ok {av : AV} {b : Bool} (h : nilM av = some b) : (∃ k, av = .mp k ∧ b = false) ∨ (av = .v (.map none) ∧ b = true) := by
  unfold nilM at h
  split at h
  · cases h; exact .inl ⟨_, rfl, rfl⟩
  · cases h; exact .inr ⟨rfl, rfl⟩
  · cases h
theorem lenM_ok {t : TypeId} {ti : TI} {d : TypeDesc} {x : Operand} {av : AV} {n : Nat} (hT : TIok P t ti) (hk : ti.kind = .plain d) (ho : o.op = .call { callee := .builtin .len, args := #[x], argTypes := #[t] }) (hx : σ.ev x = some av) (h : lenM σ d av = some n) :
    CoreOk P o σ (.v (.int .i64 (n : Int)), []) := by
  obtain ⟨_, _, d2, _, _, h3, _, _, _, hkk⟩ := hT.i
  rw [hk] at hkk
  subst hkk
  unfold lenM at h
  split at h
  · split at h
    · rename_i ob hob
      split at h
      · rename_i hz; cases h; exact ok_lenMap h3 ho hx hob hz
      · cases h
    · cases h
  · cases h; exact ok_lenNilMap h3 ho hx
  · cases h; exact ok_lenStr h3 ho hx
  · cases h
theorem cMapK_ok (hTT : TTok P TT) {t : TypeId} {x : Operand} {kv : Value} {k : Nat} {ob : AObj} {r : Option Nat} {et : TypeId} (h : cMapK TT σ t x kv = some (k, ob, r, et)) :
    ∃ d kt, P.underlying t = some (.map kt et) ∧ P.underlying kt = some d ∧ σ.ev x = some (.mp k) ∧ lk σ.objs k = some ob ∧ ob.sz = 0 ∧ isKeyB d kv = true ∧ findA d kv ob.xs 0 = some r := by
  unfold cMapK at h
  split at h
  · rename_i kt et' k' hu hx
    split at h
    · rename_i ob' d hob hd
      split at h
      · rename_i hc
        simp only [Option.map_eq_some_iff] at h
        obtain ⟨r', h1, h2⟩ := h
        cases h2
        exact ⟨d, kt, plainOf_ok hTT hu, plainOf_ok hTT hd, hx, hob, hc.1, hc.2, h1⟩
      · cases h
    · cases h
  · cases h
theorem fun_ok (hPT : PTok P PT) {f : FuncId} {L : List AV} (hen : fnB P f = true → Enters P o σ f L) (h : cFun PT σ f L = some r) : CoreOk P o σ r := by
  unfold cFun at h
  split at h
  · rename_i hp
    simp only [Option.map_eq_some_iff] at h
    obtain ⟨⟨r', fr⟩, h1, rfl⟩ := h
    obtain ⟨h2, h3, _⟩ := hPT _ _ _ _ h1
    exact ok_call (hen h2) hp h3
  · split at h
    · rename_i bvs hb
      split at h
      · rename_i r' h1
        obtain ⟨r', fr⟩ := r'
        split at h
        · rename_i hs
          cases h
          obtain ⟨h2, h3, h4⟩ := hPT _ _ _ _ h1
          rcases hs with hs | hs
          · exact ok_call_fresh (hen h2) hb (h4 hs)
          · exact ok_call_borrow (hen h2) hb h3 hs
        · cases h
      · cases h
    · cases h
theorem core_call (hTT : TTok P TT) (hPT : PTok P PT) {c : Call} (ho : o.op = .call c) (h : cCall TT PT σ id c = some r) : CoreOk P o σ r := by
  obtain ⟨callee, args, ts⟩ := c
  unfold cCall at h
  simp only at h
  split at h
  · rename_i b
    split at h
    · rename_i x t hargs hts
      rw [toList_one hargs, toList_one hts] at ho
      unfold cLen at h
      split at h
      · rename_i ti av hti hx
        split at h
        · rename_i e esz eb ez hk
          simp only [Option.map_eq_some_iff] at h
          obtain ⟨n, hn, rfl⟩ := h
          exact ok_len (hTT _ _ hti) hk ho hx hn
        · rename_i d hk
          simp only [Option.map_eq_some_iff] at h
          obtain ⟨n, hn, rfl⟩ := h
          exact lenM_ok (hTT _ _ hti) hk ho hx hn
        · cases h
      · cases h
    · rename_i s x t u hargs hts
      split at h
      · rename_i htu
        subst htu
        rw [toList_two hargs, toList_two hts] at ho
        unfold cApp at h
        split at h
        · rename_i ti sv av hti hs hx
          split at h
          · rename_i e esz eb ez hk
            split at h
            · rename_i ys hys
              split at h
              · rename_i k off n
                split at h
                · rename_i ob hob
                  split at h
                  · rename_i hc
                    obtain ⟨rfl, rfl, h3, h4, h5, h6⟩ := hc
                    cases h
                    exact ok_append (hTT _ _ hti) hk ho hs hob rfl h3 hx hys h4 h5 h6
                  · cases h
                · cases h
              · split at h
                · rename_i hc
                  obtain ⟨h3, h4, h5, h6⟩ := hc
                  cases h
                  exact ok_append_nil (hTT _ _ hti) hk ho hs hx hys h3 h4 h5 h6
                · cases h
              · cases h
            · cases h
          · cases h
        · cases h
      · cases h
    · rename_i x y _ hargs
      rw [toList_two hargs] at ho
      unfold cMM at h
      split at h
      · rename_i k a k' b hx hy
        cases h
        exact ok_minmax (mx := true) ho hx hy
      · cases h
    · rename_i x y _ hargs
      rw [toList_two hargs] at ho
      unfold cMM at h
      split at h
      · rename_i k a k' b hx hy
        cases h
        exact ok_minmax (mx := false) ho hx hy
      · cases h
    · rename_i x y t t2 hargs hts
      rw [toList_two hargs, toList_two hts] at ho
      unfold cDel at h
      split at h
      · rename_i kv hy
        split at h
        · rename_i k ob r' et hm
          obtain ⟨d, kt, h1, h2, h3, h4, h5, h6, h7⟩ := cMapK_ok hTT hm
          cases h
          exact ok_delete h1 h2 ho h3 hy h4 h5 h6 h7
        · cases h
      · cases h
    · cases h
  · rename_i x
    split at h
    · rename_i avs havs
      split at h
      · rename_i f L hx
        exact fun_ok hPT (fun hf => enters_entry ho hf hx havs) h
      · cases h
    · cases h
  · cases h

theorem core_ok (hTT : TTok P TT) (hPT : PTok P PT) (h : core TT PT σ id o = some r) : CoreOk P o σ r := by
  unfold core at h
  split at h
  · rename_i x ho
    simp only [Option.map_eq_some_iff] at h
    obtain ⟨av, h1, rfl⟩ := h
    exact ok_move (.inl ho) h1
  · rename_i x ho
    simp only [Option.map_eq_some_iff] at h
    obtain ⟨av, h1, rfl⟩ := h
    exact ok_move (.inr ho) h1
  · rename_i c x y ho
    unfold cPick at h
    split at h
    · rename_i t hc
      simp only [Option.map_eq_some_iff] at h
      obtain ⟨av, h1, rfl⟩ := h
      exact ok_pick ho hc h1
    · cases h
  · rename_i t ho
    unfold cAlloc at h
    split at h
    · rename_i ti hti
      split at h
      · cases h
      · rename_i hid; cases h; exact ok_alloc (hTT _ _ hti) ho hid
    · cases h
  · rename_i t x ho
    unfold cBox at h
    split at h
    · rename_i ti av hti hx
      split at h
      · rename_i hc; obtain ⟨h1, h2, h3⟩ := hc; cases h; exact ok_box (hTT _ _ hti) ho hx h1 h2 h3
      · cases h
    · cases h
  · rename_i t ps ho
    unfold cBuild at h
    split at h
    · rename_i ti l hti hp
      split at h
      · rename_i fs hk
        simp only [Option.map_eq_some_iff] at h
        obtain ⟨out, h1, rfl⟩ := h
        exact ok_build_st (hTT _ _ hti) hk ho hp h1
      · rename_i esz g hk
        simp only [Option.map_eq_some_iff] at h
        obtain ⟨out, h1, rfl⟩ := h
        exact ok_build_arr (hTT _ _ hti) hk ho hp h1
      · cases h
    · cases h
  · rename_i t n ps ho
    unfold cBuildS at h
    split at h
    · rename_i ti l hti hp
      split at h
      · rename_i e esz eb ez hk
        split at h
        · rename_i out hf
          split at h
          · rename_i hc; obtain ⟨h1, h2, h3⟩ := hc; cases h; exact ok_buildSlice (hTT _ _ hti) hk ho hp hf h1 h2 h3
          · cases h
        · cases h
      · cases h
    · cases h
  · rename_i t x ho
    unfold cLoad at h
    split at h
    · rename_i ti k e j hti hx
      split at h
      · rename_i ob hob
        split at h
        · rename_i hc; cases h; exact ok_load_ptr (hTT _ _ hti) ho hx hob hc.1 hc.2
        · cases h
      · cases h
    · rename_i ti cs hti hx
      split at h
      · rename_i hc; cases h; exact ok_load_pt (hTT _ _ hti) ho hx hc
      · cases h
    · cases h
  · rename_i t p x ho
    unfold cStore at h
    split at h
    · rename_i ti k e j av hti hp hx
      split at h
      · rename_i ob hob
        split at h
        · rename_i hc; obtain ⟨h1, h2, h3, h4⟩ := hc; cases h; exact ok_store (hTT _ _ hti) ho hp hob h1 hx h3 h4 h2
        · cases h
      · cases h
    · cases h
  · rename_i x ho
    unfold cNil at h
    split at h
    · rename_i k e j hx; cases h; exact ok_nilck ho hx (.inl ⟨_, _, _, rfl⟩)
    · rename_i cs hx; cases h; exact ok_nilck ho hx (.inr ⟨_, rfl⟩)
    · cases h
  · rename_i op t x y yt ho
    split at h
    · rename_i hn
      have := isNilM_eq hn
      subst this
      unfold cNilM at h
      split at h
      · rename_i kt et av hu hx
        have hp := plainOf_ok hTT hu
        split at h
        · rename_i b hb; cases h; exact ok_mapnil (neg := false) (nilM_ok hb) hp ho hx
        · rename_i b hb; cases h; exact ok_mapnil (neg := true) (nilM_ok hb) hp ho hx
        · cases h
      · cases h
    · exact core_bin hTT ho h
  · rename_i op t x ho
    unfold cUn at h
    split at h
    · rename_i u hx
      simp only [Option.map_eq_some_iff] at h
      obtain ⟨r', h1, rfl⟩ := h
      exact ok_un ho hx h1
    · cases h
  · rename_i s t x ho
    unfold cConvX at h
    split at h
    · rename_i r' hc
      cases h
      unfold cConv at hc
      split at hc
      · rename_i k0 n tis k hx hs ht
        cases hc
        obtain ⟨_, _, d, _, _, h3, _⟩ := (hTT _ _ hs).i
        exact ok_conv ho hx h3 (plainOf_ok hTT ht)
      · cases hc
    · unfold cConvB at h
      split at h
      · rename_i ti av hs hx ht
        split at h
        · rename_i e eb ez hk
          split at h
          · rename_i ys he hys
            simp only [Option.map_eq_some_iff] at h
            obtain ⟨ns, h1, rfl⟩ := h
            exact ok_bytesStr (hTT _ _ hs) hk (plainOf_ok hTT he) (plainOf_ok hTT ht) ho hx hys h1
          · cases h
        · cases h
      · cases h
  · rename_i f first cap ho
    split at h
    · rename_i hf
      have hf' : first = #[] := Array.eq_empty_of_size_eq_zero hf
      subst hf'
      simp only [Option.map_eq_some_iff] at h
      obtain ⟨l, h1, rfl⟩ := h
      obtain ⟨h2, h3⟩ := evs_get h1
      exact ok_func ho (by simpa using h2) (fun i av hi => by obtain ⟨x, h4, h5⟩ := h3 i av hi; exact ⟨x, by simpa using h4, h5⟩)
    · split at h
      · rename_i hf
        have hf' : cap = #[] := Array.eq_empty_of_size_eq_zero hf
        subst hf'
        simp only [Option.map_eq_some_iff] at h
        obtain ⟨l, h1, rfl⟩ := h
        obtain ⟨h2, h3⟩ := evs_get h1
        exact ok_bind ho (by simpa using h2) (fun i av hi => by obtain ⟨x, h4, h5⟩ := h3 i av hi; exact ⟨x, by simpa using h4, h5⟩)
      · cases h
  · rename_i t x y ho
    unfold cMake at h
    split at h
    · rename_i ti k n k' m hti hx hy
      split at h
      · rename_i e esz eb ez hk
        split at h
        · rename_i hc
          obtain ⟨rfl, h1, h2, h3, h4, h5⟩ := hc
          cases h
          exact ok_make (hTT _ _ hti) hk ho hx hy h1 h2 h3 h4 h5
        · cases h
      · cases h
    · cases h
  · rename_i t x lo hi ho
    unfold cSlice at h
    split at h
    · rename_i ti av hti hx
      split at h
      · rename_i e esz eb ez hk
        unfold slA at h
        split at h
        · rename_i s xs
          split at h
          · rename_i l hh hb
            split at h
            · rename_i hs; subst hs; cases h; exact ok_slice_sl (hTT _ _ hti) hk ho hx hb
            · cases h
          · cases h
        · rename_i k off n
          split at h
          · rename_i l hh ob hb hob
            split at h
            · rename_i hs; cases h; exact ok_slice_ref (hTT _ _ hti) hk ho hx hob hs hb
            · cases h
          · cases h
        · cases h
      · cases h
    · cases h
  · rename_i t x i ho
    unfold cFA at h
    split at h
    · rename_i ti av hti hx
      split at h
      · rename_i fs hk
        split at h
        · rename_i off sz g hf
          split at h
          · cases h
          · rename_i h0
            split at h
            · cases h; exact ok_faddr_ptr (hTT _ _ hti) hk hf h0 ho hx
            · cases h; exact ok_faddr_pt (hTT _ _ hti) hk hf h0 ho hx
            · cases h
        · cases h
      · cases h
    · cases h
  · rename_i t x i ho
    unfold cF at h
    split at h
    · rename_i ti cs hti hx
      split at h
      · rename_i fs hk
        split at h
        · rename_i off sz g hf
          split at h
          · rename_i hc
            cases h
            exact ok_fieldv (hTT _ _ hti) hk hf ho hx hc.1 (fun hg => hc.2.resolve_left (by rw [hg]; simp))
          · cases h
        · cases h
      · cases h
    · cases h
  · rename_i t x y ho
    unfold cIA at h
    split at h
    · rename_i ti av i hti hx hy
      split at h
      · rename_i e esz eb ez hk
        unfold idxA at h
        split at h
        · rename_i s xs
          split at h
          · rename_i hs
            subst hs
            simp only [Option.map_eq_some_iff] at h
            obtain ⟨m, hm, rfl⟩ := h
            exact ok_iaddr_sl (hTT _ _ hti) hk ho hx hy hm
          · cases h
        · rename_i k off n
          split at h
          · rename_i ob hob
            split at h
            · rename_i hs
              simp only [Option.map_eq_some_iff] at h
              obtain ⟨m, hm, rfl⟩ := h
              exact ok_iaddr_ref (hTT _ _ hti) hk ho hx hob hs hy hm
            · cases h
          · cases h
        · cases h
      · rename_i len esz g hk
        split at h
        · simp only [Option.map_eq_some_iff] at h
          obtain ⟨m, hm, rfl⟩ := h
          exact ok_iaddr_arr (hTT _ _ hti) hk ho hx hy hm
        · simp only [Option.map_eq_some_iff] at h
          obtain ⟨m, hm, rfl⟩ := h
          exact ok_iaddr_arr_pt (hTT _ _ hti) hk ho hx hy hm
        · cases h
      · cases h
    · cases h
  · rename_i t x y ho
    unfold cIX at h
    split at h
    · rename_i s hx
      unfold cIS at h
      split at h
      · rename_i k z hu hy
        split at h
        · rename_i h0
          split at h
          · rename_i b hb
            cases h
            exact ok_idxStr (plainOf_ok hTT hu) ho hx hy h0 hb
          · cases h
        · cases h
      · cases h
    unfold cI at h
    split at h
    · rename_i ti cs i hti hx hy
      split at h
      · rename_i len esz g hk
        split at h
        · rename_i hc
          simp only [Option.map_eq_some_iff] at h
          obtain ⟨m, hm, rfl⟩ := h
          exact ok_index (hTT _ _ hti) hk ⟨hc.1, hc.2.1⟩ ho hx hc.2.2 hy hm
        · cases h
      · cases h
    · cases h
  · rename_i x i ho
    unfold cExt at h
    split at h
    · rename_i cs hx
      simp only [Option.map_eq_some_iff] at h
      obtain ⟨av, h1, rfl⟩ := h
      exact ok_extract ho hx h1
    · cases h
  · rename_i c ho
    exact core_call hTT hPT ho h
  · rename_i t x ho
    unfold cMakeM at h
    split at h
    · rename_i kt et hu
      split at h
      · rename_i hc
        cases h
        refine ok_makeMap (plainOf_ok hTT hu) ho (fun y hy => ?_) hc.2
        have h1 := hc.1
        subst hy
        simp only [hintB] at h1
        split at h1
        · rename_i k n hy; exact ⟨k, n, hy⟩
        · cases h1
      · cases h
    · cases h
  · rename_i t x y ok ho
    unfold cLook at h
    split at h
    · rename_i kv hy
      split at h
      · rename_i k ob r' et hm
        obtain ⟨d, kt, h1, h2, h3, h4, h5, h6, h7⟩ := cMapK_ok hTT hm
        split at h
        · rename_i ti hti
          split at h
          · rename_i ha; cases h; exact ok_lookup h1 h2 (hTT _ _ hti) ha ho h3 hy h4 h5 h6 h7
          · cases h
        · cases h
      · cases h
    · cases h
  · rename_i t x y z ho
    unfold cUpd at h
    split at h
    · rename_i kv av hy hz
      split at h
      · rename_i k ob r' et hm
        obtain ⟨d, kt, h1, h2, h3, h4, h5, h6, h7⟩ := cMapK_ok hTT hm
        split at h
        · rename_i hc; cases h; exact ok_mapUpdate h1 h2 ho h3 hy hz hc h4 h5 h6 h7
        · cases h
      · cases h
    · cases h
  · cases h
end ok
end Go.Proofs.YtafikekndefjcaaDoor
/- Am13: An abstract machine for the text, part thirteen: code; plain lemmas over any program; no condition. -/
namespace Go.Proofs.YtafikekndefjcaaDoor
set_option linter.unusedVariables false
set_option linter.unusedSimpArgs false
set_option linter.unusedSectionVars false
open Go.RowKit

def wantA (σ : AS) (ops : Array Oper) (o : Oper) : Option Bool :=
  match o.guard with
  | none => some true
  | some (j, want) => match (ops[j]?).bind (·.dst) with
    | some t => match lk σ.slots t with
      | some (.v (.bool b)) => some (b == want)
      | some (.v _) => some false
      | _ => none
    | none => none
theorem wantA_ok {B : Base} {G : Gh} {σ : AS} {w : World} {a : Act} (hr : R B G σ w a) {ops : Array Oper} {o : Oper} {b : Bool} (h : wantA σ ops o = some b) : Region.wanted o (yielded ops a.tmps) = b := by
  unfold wantA at h
  unfold Region.wanted
  split at h
  · rename_i hg; simp only [hg]; cases h; rfl
  · rename_i j want hg
    simp only [hg]
    split at h
    · rename_i t ht
      have key : ∀ x : Value, lk σ.slots t = some (.v x) → yielded ops a.tmps j = (match x with | .bool b => some b | _ => none) := fun x hx => by
        obtain ⟨h1, h2⟩ := hr.slot t _ hx
        have h3 := h2.v_eq
        have hlt : t < a.tmps.size := by rw [hr.n]; exact h1
        have h4 : a.tmps[t]? = some x := by
          have : a.tmps[t] = x := by simpa [Array.getD, hlt] using h3
          simp [hlt, this]
        unfold yielded
        rw [ht, Option.bind_some, h4]
        cases x <;> rfl
      split at h
      · rename_i b' hx
        cases h
        rw [key _ hx]
        cases b' <;> cases want <;> rfl
      · rename_i x hnb hx
        cases h
        rw [key _ hx]
        cases x <;> first | rfl | exact absurd rfl (hnb _)
      · cases h
    · cases h

def dstOk (σ : AS) (o : Oper) : Bool := match o.dst with
  | some d => decide (d < σ.n)
  | none => true
section code
variable (TT : TTab) (PT : PTab)
def stepA (ops : Array Oper) (id : Nat) (σ : AS) (o : Oper) : Option AS :=
  if dstOk σ o = true then
    match wantA σ ops o with
    | some true => match core TT PT σ id o with
      | some r => some ((σ.upd r.2).put o.dst r.1)
      | none => none
    | some false => some (σ.put o.dst (.v undef))
    | none => none
  else none
def runL (ops : Array Oper) : List Oper → Nat → AS → Option AS
  | [], _, σ => some σ
  | o :: r, id, σ => match stepA TT PT ops id σ o with
    | some σ' => runL ops r (id + 1) σ'
    | none => none
def nxt (σ : AS) : Nat := σ.ids.foldr (fun k m => max (k + 1) m) 0
end code

/-! ### In a function's frame, or in a round's -/
def FR (ro : Option Nat) : Fence := { fn := fun _ => True, depth := none, alive := false, round := ro }
theorem FR_none : FR none = Fence.wide := rfl
theorem FR_fn (ro : Option Nat) (f : FuncId) : (FR ro).fn f := trivial
theorem FR_calls {ro : Option Nat} {n : Nat} {P : Program} {f : FuncId} {args : Array Value} {w : World} {R : Ending → World → Prop} : CallsIn (FR ro) n P f args w R ↔ Calls P f args w R := callsIn_wide (n := n)
theorem FR_rows {ro : Option Nat} {n : Nat} {P : Program} {row : String} {args : Array Value} {w : World} {R : Value → World → Prop} (h : Rows P row args w R) : RowsIn (FR ro) n P row args w R :=
  fun c cs _ => let ⟨v, w', r, s⟩ := h c cs; ⟨v, w', r, stepsIn_wide.2 s⟩
theorem wp_FR {ro : Option Nat} {P : Program} {o : Oper} {a : Act} {w : World} {K : Act → World → Prop} {Q : Exit → Act → World → Prop} (hd : ∀ c, o.op ≠ .defer c) (h : o.wp P a w K Q) : o.wpIn (FR ro) 0 P a w K Q := by
  refine ⟨fun f _ => trivial, ?_⟩
  rw [show (FR ro).round = ro from rfl, Oper.semAt_eq ro a.eval o hd]
  unfold Oper.wp at h
  generalize (execOp a.eval o).run P w = r at *
  cases r with
  | ok n w' =>
    cases n <;> simp only [Oper.upon] at h <;> first
      | exact h
      | exact h.elim
      | exact ⟨fun e => (by cases e), FR_calls.2 h⟩
      | exact ⟨fun e => (by cases e), FR_rows h⟩
  | halt x w' => cases x <;> simp only [Oper.upon] at h <;> first
      | exact h
      | exact h.elim

section sound
variable {P : Program} {TT : TTab} {PT : PTab} {B : Base}
def CoreI (P : Program) (B : Base) (o : Oper) (σ : AS) (r : Res) : Prop :=
  ∀ D G w a, R (B.d D) G σ w a → ∀ (K : Act → World → Prop) (Q : Exit → Act → World → Prop), (∀ G' w' x, G.le G' → R (B.d D) G' (σ.upd r.2) w' a → Rv G' r.1 x → K (a.put o.dst x) w') → o.wpIn (FR B.ro) 0 P a w K Q
theorem CoreOk.inn {o : Oper} {σ : AS} {r : Res} (h : CoreOk P o σ r) (hd : ∀ c, o.op ≠ .defer c) : CoreI P B o σ r := fun D G w a hr K Q hK => wp_FR hd (h (B.d D) G w a hr K Q hK)
theorem core_nd {σ : AS} {id : Nat} {o : Oper} {r : Res} (h : core TT PT σ id o = some r) : ∀ c, o.op ≠ .defer c := fun c hc => by simp [core, hc] at h

theorem R.dst {G : Gh} {σ : AS} {w : World} {a : Act} {o : Oper} (h : dstOk σ o = true) : ∀ d, o.dst = some d → d < σ.n := fun d hd => by
  unfold dstOk at h
  rw [hd] at h
  simpa using h
theorem stepA_ok (hTT : TTok P TT) (hPT : PTok P PT) {ops : Array Oper} {id : Nat} {σ σ' : AS} {o : Oper} (h : stepA TT PT ops id σ o = some σ') {D : List Nat} {G : Gh} {w : World} {a : Act} (hr : R (B.d D) G σ w a) (K : Act → World → Prop) (Q : Exit → Act → World → Prop) (hK : ∀ G' w' a', G.le G' → R (B.d D) G' σ' w' a' → K a' w') :
    if Region.wanted o (yielded ops a.tmps) = true then o.wpIn (FR B.ro) 0 P a w K Q else (∀ f, o.about P w a.eval = some f → (FR B.ro).fn f) ∧ K (a.put o.dst undef) w := by
  unfold stepA at h
  split at h
  · rename_i hd
    split at h
    · rename_i hw
      rw [if_pos (wantA_ok hr hw)]
      split at h
      · rename_i r hc
        cases h
        exact (core_ok hTT hPT hc).inn (core_nd hc) D G w a hr K Q fun G' w' x hle hr' hx => hK G' w' _ hle (hr'.put (fun d hdd => R.dst (G := G) (w := w) (a := a) hd d hdd) hx)
      · cases h
    · rename_i hw
      rw [if_neg (by rw [wantA_ok hr hw]; simp)]
      cases h
      exact ⟨fun _ _ => trivial, hK G w _ (Gh.le.refl G) (hr.put (R.dst (G := G) (w := w) (a := a) hd) (.v _))⟩
    · cases h
  · cases h
theorem runL_ok (hTT : TTok P TT) (hPT : PTok P PT) {ops : Array Oper} : ∀ (l : List Oper) (id : Nat) (σ σ' : AS), runL TT PT ops l id σ = some σ' → ∀ {D : List Nat} {G : Gh} {w : World} {a : Act}, R (B.d D) G σ w a → ∀ (Q : Exit → Act → World → Prop), (∀ G' w' a', G.le G' → R (B.d D) G' σ' w' a' → Q .normal a' w') → wpListIn (FR B.ro) 0 P ops Q l a w
  | [], id, σ, σ', h, D, G, w, a, hr, Q, hQ => by
    simp only [runL, Option.some.injEq] at h
    subst h
    exact hQ G w a (Gh.le.refl G) hr
  | o :: r, id, σ, σ', h, D, G, w, a, hr, Q, hQ => by
    simp only [runL] at h
    split at h
    · rename_i σ1 h1
      have := stepA_ok hTT hPT h1 hr (wpListIn (FR B.ro) 0 P ops Q r) Q fun G' w' a' hle hr' => runL_ok hTT hPT r (id + 1) σ1 σ' h hr' Q fun G2 w2 a2 hle2 hr2 => hQ G2 w2 a2 (hle.trans hle2) hr2
      unfold wpListIn
      exact this
    · cases h

def Post (B : Base) (Q : Exit → AS → Prop) (e : Exit) (a : Act) (w : World) : Prop := ∃ D G σ, R (B.d D) G σ w a ∧ Q e σ
def SP (P : Program) (B : Base) (c : Code) (σ : AS) (Q : Exit → AS → Prop) : Prop := ∀ D G w a, R (B.d D) G σ w a → c.wpIn (FR B.ro) 0 P (Post B Q) a w

variable {σ : AS} {Q : Exit → AS → Prop}
theorem sp_region (hTT : TTok P TT) (hPT : PTok P PT) {id : Nat} {ops : Array Oper} {σ' : AS} (h : runL TT PT ops ops.toList (nxt σ) σ = some σ') (k : Q .normal σ') : SP P B (.region id ops false) σ Q :=
  fun D G w a hr => wpIn_region_list (runL_ok hTT hPT _ _ _ _ h hr _ fun G' w' a' _ hr' => ⟨D, G', σ', hr', k⟩)
theorem sp_seq {x y : Code} (h : SP P B x σ (fun e τ => match e with | .normal => SP P B y τ Q | e => Q e τ)) : SP P B (.seq x y) σ Q :=
  fun D G w a hr => wpIn_seq (wpIn_mono (h D G w a hr) fun e a' w' hq => by
    obtain ⟨D', G', τ, hr', hq⟩ := hq
    cases e <;> first | exact hq D' G' w' a' hr' | exact ⟨D', G', τ, hr', hq⟩)
theorem sp_skip (h : Q .normal σ) : SP P B .skip σ Q := fun D G w a hr => wpIn_skip ⟨D, G, σ, hr, h⟩
theorem sp_ret (h : Q .ret σ) : SP P B .ret σ Q := fun D G w a hr => wpIn_ret ⟨D, G, σ, hr, h⟩
theorem sp_exit {id : Nat} (h : Q (.exit id) σ) : SP P B (.exit id) σ Q := fun D G w a hr => wpIn_exit ⟨D, G, σ, hr, h⟩
theorem sp_cond {c : Operand} {x y : Code} {b : Bool} (hc : σ.ev c = some (.v (.bool b))) (h1 : b = true → SP P B x σ Q) (h2 : b = false → SP P B y σ Q) : SP P B (.cond c x y) σ Q :=
  fun D G w a hr => wpIn_cond (hr.ev hc).v_eq (by
    cases b
    · exact h2 rfl D G w a hr
    · exact h1 rfl D G w a hr)
theorem sp_block {id : Nat} {c : Code} (h : SP P B c σ (fun e τ => match e with | .exit i => if i = id then Q .normal τ else Q (.exit i) τ | e => Q e τ)) : SP P B (.block id c) σ Q :=
  fun D G w a hr => wpIn_block (wpIn_mono (h D G w a hr) fun e a' w' hq => by
    obtain ⟨D', G', τ, hr', hq⟩ := hq
    cases e <;> first
      | exact ⟨D', G', τ, hr', hq⟩
      | (
         simp only [Exit.inBlock] at hq ⊢
         split at hq
         · rename_i h; subst h; simp only [if_true]; exact ⟨D', G', τ, hr', hq⟩
         · rename_i h
           first
           | (rw [if_neg h]; exact ⟨D', G', τ, hr', hq⟩)
           | (rw [if_neg (Ne.symm h)]; exact ⟨D', G', τ, hr', hq⟩)))
theorem sp_mono {c : Code} {Q' : Exit → AS → Prop} (h : SP P B c σ Q') (hq : ∀ e τ, Q' e τ → Q e τ) : SP P B c σ Q :=
  fun D G w a hr => wpIn_mono (h D G w a hr) fun e a' w' ⟨D', G', τ, hr', hq'⟩ => ⟨D', G', τ, hr', hq _ _ hq'⟩

structure WeakI (I : List Nat) (σ τ : AS) : Prop where
  n : τ.n = σ.n
  ren : ∃ ρ : Nat → Nat, (∀ t av, lk τ.slots t = some av → lk σ.slots t = some (av.ren ρ) ∧ ∀ k ∈ av.ids, k ∈ τ.ids) ∧
    (∀ k ob, lk τ.objs k = some ob → lk σ.objs (ρ k) = some ⟨ob.t, ob.sz, renLL ρ ob.xs⟩ ∧ k ∈ τ.ids ∧ ∀ q ∈ idsLL ob.xs, q ∈ τ.ids) ∧ (∀ k ob k' ob', lk τ.objs k = some ob → lk τ.objs k' = some ob' → ρ k = ρ k' → k = k') ∧ ∀ k ∈ I, ρ k = k ∧ k ∈ τ.ids
abbrev Weak (σ τ : AS) : Prop := WeakI [] σ τ
theorem R.weakG {G : Gh} {w : World} {a : Act} {τ : AS} (hr : R B G σ w a) (ρ : Nat → Nat) (hn : τ.n = σ.n) (h1 : ∀ t av, lk τ.slots t = some av → lk σ.slots t = some (av.ren ρ) ∧ ∀ k ∈ av.ids, k ∈ τ.ids)
    (h2 : ∀ k ob, lk τ.objs k = some ob → lk σ.objs (ρ k) = some ⟨ob.t, ob.sz, renLL ρ ob.xs⟩ ∧ k ∈ τ.ids ∧ ∀ q ∈ idsLL ob.xs, q ∈ τ.ids) (h3 : ∀ k ob k' ob', lk τ.objs k = some ob → lk τ.objs k' = some ob' → ρ k = ρ k' → k = k') (hI : ∀ k ∈ B.I0, ρ k = k ∧ k ∈ τ.ids) :
    R B ⟨G.S, fun k => if k ∈ τ.ids then G.loc (ρ k) else none⟩ τ w a := by
  have hloc : ∀ k l, k ∈ τ.ids → G.loc (ρ k) = some l → (⟨G.S, fun k => if k ∈ τ.ids then G.loc (ρ k) else none⟩ : Gh).loc k = some l := fun k l hk hl => by
    show (if k ∈ τ.ids then G.loc (ρ k) else none) = some l
    rw [if_pos hk]; exact hl
  have hback : ∀ k ob b x, lk τ.objs k = some ob → (⟨G.S, fun k => if k ∈ τ.ids then G.loc (ρ k) else none⟩ : Gh).loc k = some (some b, x) → G.loc (ρ k) = some (some b, x) := fun k ob b x hk hl => by
    have : (if k ∈ τ.ids then G.loc (ρ k) else none) = some (some b, x) := hl
    rw [if_pos (h2 k ob hk).2.1] at this; exact this
  have hh := hr.heap
  refine ⟨by rw [hn]; exact hr.n, fun t av ht => ?_, hr.defers, ?_, fun k hk => ?_⟩
  · obtain ⟨g1, g2⟩ := h1 t av ht
    obtain ⟨g3, g4⟩ := hr.slot t _ g1
    exact ⟨by rw [hn]; exact g3, Rv.renamed (G := G) (G' := ⟨G.S, fun k => if k ∈ τ.ids then G.loc (ρ k) else none⟩) ρ (fun _ _ _ h => h) g4 fun k hk l hl => hloc k l (g2 k hk) hl⟩
  · refine ⟨hh.os, hh.tape, hh.output, hh.size, hh.old, fun k ob hk => ?_, fun k ob hk b base cap sz hl => hh.own (ρ k) _ (h2 k ob hk).1 _ _ _ _ (hback k ob _ _ hk hl), fun k k' ob ob' hk hk' b x y hl hl' => h3 k ob k' ob' hk hk' (hh.inj _ _ _ _ (h2 k ob hk).1 (h2 k' ob' hk').1 _ _ _ (hback _ _ _ _ hk hl) (hback _ _ _ _ hk' hl')), hh.st, fun k ob hk b x hl => hh.sep (ρ k) _ (h2 k ob hk).1 b x (hback _ _ _ _ hk hl), hh.fresh, hh.keep, fun k l hk => ?_, hh.pin, hh.base⟩
    · obtain ⟨g1, g2, g3⟩ := h2 k ob hk
      by_cases hz : ob.sz = 0
      · obtain ⟨b, base, cap, f1, es, clock, f2, fs, f3, f4⟩ := (hh.obj _ _ g1).map hz
        refine .ofMap hz (hloc k _ g2 f1) ⟨es, clock, f2, fs, by simpa [renLL_len] using f3, fun i hi => ?_⟩
        obtain ⟨e, key, av, a1, a2, a3, a4, a5⟩ := f4 i (by simpa [renLL_len] using hi)
        simp only [renLL_getD] at a2
        have hx : ∃ kv bv, ob.xs.getD i [] = [kv, bv] ∧ kv.ren ρ = .v key ∧ bv.ren ρ = av := by
          cases hr2 : ob.xs.getD i [] with
          | nil => rw [hr2] at a2; simp [renL] at a2
          | cons x1 r1 => cases r1 with
            | nil => rw [hr2] at a2; simp [renL] at a2
            | cons x2 r2 => cases r2 with
              | nil => rw [hr2] at a2; simp only [renL, List.cons.injEq] at a2; exact ⟨x1, x2, rfl, a2.1, a2.2.1⟩
              | cons x3 r3 => rw [hr2] at a2; simp [renL] at a2
        obtain ⟨kv, bv, b1, b2, rfl⟩ := hx
        have hkv : kv = .v key := by
          cases kv <;> simp [AV.ren] at b2
          rw [b2]
        subst hkv
        refine ⟨e, key, bv, a1, b1, a3, a4, Rv.renamed (G := G) (G' := ⟨G.S, fun k => if k ∈ τ.ids then G.loc (ρ k) else none⟩) ρ (fun _ _ _ h => h) a5 fun q hq l hl => hloc q l (g3 q (idsLL_mem hi ?_)) hl⟩
        rw [b1]; simp [idsL, AV.ids]; exact hq
      obtain ⟨blk, base, cap, f1, f2, f3, f4, f5⟩ := (hh.obj _ _ g1).cells (by show 0 < ob.sz; omega)
      simp only [renLL_len, renLL_getD, renL_len] at f1 f2 f4 f5
      refine .of (by omega) ⟨blk, base, cap, hloc k _ g2 f1, f2, f3, f4, ?_⟩
      cases blk with
      | none => exact f5
      | some b =>
        obtain ⟨vs, f6, f7, f8⟩ := f5
        refine ⟨vs, f6, f7, fun i j hi hj => ?_⟩
        obtain ⟨f9, f10⟩ := f8 i j hi hj
        refine ⟨f9, ?_⟩
        rw [renL_getD] at f10
        refine Rv.renamed (G := G) (G' := ⟨G.S, fun k => if k ∈ τ.ids then G.loc (ρ k) else none⟩) ρ (fun _ _ _ h => h) f10 fun q hq l hl => hloc q l (g3 q ?_) hl
        exact idsLL_mem hi (idsL_mem (by rw [f4 i hi]; exact hj) hq)
    · obtain ⟨g1, g2⟩ := hI k (hh.base.2.1 k l hk)
      exact hloc k l g2 (by rw [g1]; exact hh.fix k l hk)
  · have : (if k ∈ τ.ids then G.loc (ρ k) else none) ≠ none := hk
    split at this
    · assumption
    · exact absurd rfl this
theorem R.weak {G : Gh} {w : World} {a : Act} {τ : AS} (hr : R B G σ w a) (h : WeakI B.I0 σ τ) : ∃ G', R B G' τ w a := by
  obtain ⟨hn, ρ, h1, h2, h3, hI⟩ := h
  exact ⟨_, hr.weakG ρ hn h1 h2 h3 hI⟩
theorem sp_weak {c : Code} {τ : AS} (h : WeakI B.I0 σ τ) (k : SP P B c τ Q) : SP P B c σ Q := fun D G w a hr => by
  obtain ⟨G', hr'⟩ := hr.weak (B := B.d D) h
  exact k D G' w a hr'

theorem sp_loop {ι : Type} {c : Code} (J : ι → AS) (μ : ι → Nat) (i0 : ι) (h0 : WeakI B.I0 σ (J i0)) (round : ∀ i, SP P B c (J i) (fun e τ => match e with | .normal => ∃ j, μ j < μ i ∧ WeakI B.I0 τ (J j) | e => Q e τ)) : SP P B (.loop c) σ Q :=
  fun D G w a hr => by
    obtain ⟨G', hr'⟩ := hr.weak (B := B.d D) h0
    refine wpIn_loop_ghost (fun n a w => ∃ i D G, μ i = n ∧ R (B.d D) G (J i) w a) (μ i0) ⟨i0, D, G', rfl, hr'⟩ ?_
    rintro n a w ⟨i, D, G, rfl, hri⟩
    refine wpIn_mono (round i D G w a hri) fun e a' w' hq => ?_
    obtain ⟨D2, G2, τ, hr2, hq⟩ := hq
    cases e <;> first
      | (
         obtain ⟨j, hj, hw⟩ := hq
         obtain ⟨G3, hr3⟩ := hr2.weak (B := B.d D2) hw
         exact ⟨μ j, hj, j, D2, G3, rfl, hr3⟩)
      | exact ⟨D2, G2, τ, hr2, hq⟩

/-! ### Results -/
def ret1 (TT : TTab) (σ : AS) : ResultVar → Option AV
  | .tmp t => if t < σ.n then lk σ.slots t else none
  | .cell t ty => match TT ty, lk σ.slots t with
    | some ti, some (.ptr k e j) => match lk σ.objs k with
      | some ob => if e < ob.xs.length ∧ j + ti.size ≤ ob.sz then some (ldA ti ((ob.xs.getD e []).drop j)) else none
      | none => none
    | _, _ => none
def retL (TT : TTab) (σ : AS) : List ResultVar → Option (List AV)
  | [] => some []
  | r :: rs => match ret1 TT σ r, retL TT σ rs with
    | some a, some l => some (a :: l)
    | _, _ => none
def retA (TT : TTab) (σ : AS) (rs : List ResultVar) : Option AV :=
  match retL TT σ rs with
  | some [a] => some a
  | some l => some (.tup l)
  | none => none
def resV (tmps : Array Value) : ResultVar → Sem Value
  | .tmp t => pure (tmps.getD t undef)
  | .cell c t => do loadVar t (← asAddr (tmps.getD c undef))
theorem results_eq (fn : Func) (tmps : Array Value) : results fn tmps = (do let vs ← fn.results.mapM (resV tmps); pure (if h : vs.size = 1 then vs[0] else .tuple vs)) := rfl
theorem ret1_ok (hTT : TTok P TT) {G : Gh} {w : World} {a : Act} (hr : R B G σ w a) {rv : ResultVar} {av : AV} (h : ret1 TT σ rv = some av) :
    ∃ v, (resV a.tmps rv).run P w = .ok v w ∧ Rv G av v := by
  unfold ret1 at h
  split at h
  · rename_i t
    split at h
    · exact ⟨_, rfl, (hr.slot _ _ h).2⟩
    · cases h
  · rename_i t ty
    split at h
    · rename_i ti k e j hti hx
      split at h
      · rename_i ob hk
        split at h
        · rename_i hc
          obtain ⟨he, hj⟩ := hc
          cases h
          obtain ⟨b, base, cap, sz, hl, hv⟩ := ptr_inv (hr.slot _ _ hx).2
          obtain ⟨blk, ba, ca, h1, h2, h3, h4, h5⟩ := (hr.heap.obj k ob hk).cells (by have := (hTT _ _ hti).pos; omega)
          have hlen := h4 e he
          have hsz : sz = ob.sz := by rw [hl] at h1; cases h1; rfl
          subst hsz
          obtain ⟨u, h6, h7⟩ := run_loadVarAt (P := P) (hTT _ _ hti) (G := G) (w := w) (b := b) (o := base + (e * ob.sz + j)) (cs := (ob.xs.getD e []).drop j) (fun i hi => by
            obtain ⟨_, u, g1, _, g2, g3⟩ := hr.cellsOf hk hl he (j := j + i) (by omega)
            exact ⟨u, by rw [← g1]; congr 2; omega, g2, by simpa [List.getD, List.getElem?_drop] using g3⟩)
          refine ⟨u, ?_, h7.resolve_left (by rw [List.length_drop, hlen]; omega)⟩
          simp only [resV, Sem.run_bind, hv, asAddr, Sem.run_pure, Result.andThen_ok, h6]
        · cases h
      · cases h
    · cases h
theorem retL_ok (hTT : TTok P TT) {G : Gh} {w : World} {a : Act} (hr : R B G σ w a) : ∀ {rs : List ResultVar} {l : List AV}, retL TT σ rs = some l →
    ∃ vs : List Value, (rs.mapM (resV a.tmps)).run P w = .ok vs w ∧ vs.length = l.length ∧ ∀ i, i < l.length → Rv G (l.getD i .any) (vs.getD i undef)
  | [], l, h => by simp only [retL, Option.some.injEq] at h; subst h; exact ⟨[], rfl, rfl, fun i hi => by simp at hi⟩
  | r :: rs, l, h => by
    simp only [retL] at h
    split at h
    · rename_i av l' h1 h2
      cases h
      obtain ⟨v, h3, h4⟩ := ret1_ok hTT hr h1
      obtain ⟨vs, h5, h6, h7⟩ := retL_ok hTT hr h2
      refine ⟨v :: vs, ?_, by simp [h6], fun i hi => ?_⟩
      · rw [List.mapM_cons, Sem.run_bind, h3]
        simp only [Result.andThen_ok, Sem.run_bind, h5, Sem.run_pure]
      · cases i with
        | zero => simpa using h4
        | succ i => simpa using h7 i (by simpa using hi)
    · cases h
theorem retA_ok (hTT : TTok P TT) {G : Gh} {w : World} {a : Act} (hr : R B G σ w a) {fn : Func} {av : AV} (h : retA TT σ fn.results.toList = some av) : ∃ v, (results fn a.tmps).run P w = .ok v w ∧ Rv G av v := by
  unfold retA at h
  have key : ∀ l, retL TT σ fn.results.toList = some l → ∃ vs : List Value, (results fn a.tmps).run P w = .ok (if h : vs.toArray.size = 1 then vs.toArray[0] else .tuple vs.toArray) w ∧ vs.length = l.length ∧ ∀ i, i < l.length → Rv G (l.getD i .any) (vs.getD i undef) := fun l hl => by
    obtain ⟨vs, h1, h2, h3⟩ := retL_ok hTT hr hl
    refine ⟨vs, ?_, h2, h3⟩
    rw [results_eq, Array.mapM_eq_mapM_toList]
    simp only [Sem.run_bind, Sem.run_map, h1, Result.andThen_ok, Sem.run_pure]
  split at h
  · rename_i x hl
    cases h
    obtain ⟨vs, h1, h2, h3⟩ := key _ hl
    match vs, h2 with
    | [v], _ => exact ⟨v, h1, by simpa using h3 0 (by simp)⟩
  · rename_i l hne hl
    cases h
    obtain ⟨vs, h1, h2, h3⟩ := key _ hl
    have hs : ¬ vs.toArray.size = 1 := fun e => by
      have e' : l.length = 1 := by rw [← h2]; simpa using e
      obtain ⟨x, hx⟩ := List.length_eq_one_iff.1 e'
      exact hne x hx
    rw [dif_neg hs] at h1
    exact ⟨_, h1, .tup l vs h2 h3⟩
  · cases h

def enumA : Nat → List AV → List (Nat × AV)
  | _, [] => []
  | i, a :: r => (i, a) :: enumA (i + 1) r
theorem lk_enumA : ∀ (l : List AV) (i t : Nat) (av : AV), lk (enumA i l) t = some av → i ≤ t ∧ t < i + l.length ∧ l.getD (t - i) .any = av
  | [], i, t, av, h => by simp [enumA, lk] at h
  | a :: r, i, t, av, h => by
    simp only [enumA, lk] at h
    split at h
    · rename_i e; subst e; cases h; simp
    · rename_i e
      obtain ⟨h1, h2, h3⟩ := lk_enumA r (i + 1) t av h
      refine ⟨by omega, by simp; omega, ?_⟩
      have : t - i = (t - (i + 1)) + 1 := by omega
      rw [this]; simpa using h3
def PostP (TT : TTab) (fn : Func) (res : AV) (e : Exit) (σ : AS) : Prop := (e = .normal ∨ e = .ret) ∧ ∃ av, retA TT σ fn.results.toList = some av ∧ σ.shut (fun _ => true) av = some res
theorem R.unpin {r : Nat} {D : List Nat} {G : Gh} {w : World} {a : Act} (hr : R (B.d (r :: D)) G σ w a) : R (B.d D) G σ (w.putObj r (.deferred none)) { a with defers := D.map mark } := by
  have hh := hr.heap
  obtain ⟨hp, hge⟩ := hh.pin r (by simp [Base.d])
  have hlt := (Array.getElem?_eq_some_iff.1 hp).1
  have hoth : ∀ b, b ≠ r → (w.putObj r (.deferred none)).heap[b]? = w.heap[b]? := fun b hb => World.putObj_heap_other hb
  have hobj : ∀ k ob b x, lk σ.objs k = some ob → G.loc k = some (some b, x) → b ≠ r := fun k ob b x hk hl e => by
    subst e
    obtain ⟨o', h6, h7⟩ := (hh.obj k ob hk).at_ hl
    rw [hp] at h7; cases h7
    rcases h6 with ⟨_, h6⟩ | ⟨_, _, h6⟩ <;> cases h6
  refine ⟨hr.n, hr.slot, rfl, ⟨hh.os, hh.tape, hh.output, by rw [World.putObj_size]; exact hh.size, fun b hb hn => ?_, fun k o hk => (hh.obj k o hk).mono (Gh.le.refl G) fun b base cap sz hl => hoth b (hobj k o b _ hk hl), hh.own, hh.inj, fun b o u hs => ?_, hh.sep, hh.fresh, hh.keep, hh.fix, fun q hq => ?_, ?_⟩, hr.ids⟩
  · rw [hoth b (fun e => by subst e; have : B.w0.heap.size ≤ b := hge; have : b < B.w0.heap.size := hb; omega)]
    exact hh.old b hb hn
  · have h1 := hh.st b o u hs
    have hne : b ≠ r := fun e => by
      subst e
      unfold World.cell? at h1
      simp only [hp] at h1; cases h1
    rw [← h1]
    exact World.cell?_of_block (hoth b hne)
  · have hnd := hh.base.1
    have hq' : q ∈ (B.d (r :: D)).D := List.mem_cons_of_mem _ hq
    have hne : q ≠ r := fun e => by
      subst e
      exact (List.nodup_cons.1 hnd).1 hq
    rw [hoth q hne]
    exact hh.pin q hq'
  · exact ⟨(List.nodup_cons.1 hh.base.1).2, hh.base.2⟩
theorem leaves_ok (hTT : TTok P TT) {fn : Func} {τ : AS} {av : AV} (h : retA TT τ fn.results.toList = some av) {Rf : Ending → World → Prop} : ∀ (D : List Nat) (G : Gh) (w : World) (a : Act), R (B.d D) G τ w a → (∀ w' v, R (B.d []) G τ w' { a with defers := [] } → Rv G av v → Rf (.returned v) w') → LeavesInM Fence.wide 0 P fn a.tmps Rf (D.map mark) .returning w
  | [], G, w, a, hr, hR => by
    obtain ⟨v, h1, h2⟩ := retA_ok hTT hr h
    exact ⟨v, h1, hR w v ⟨hr.n, hr.slot, rfl, hr.heap, hr.ids⟩ h2⟩
  | r :: D, G, w, a, hr, hR => by
    refine ⟨by simp, .inl ⟨r, _, rfl, run_takeDeferred (hr.heap.pin r (by simp [Base.d])).1, ?_⟩⟩
    exact leaves_ok hTT h D G _ { a with defers := D.map mark } hr.unpin fun w' v h1 h2 => hR w' v h1 h2
theorem call_sp (hTT : TTok P TT) {f : FuncId} {fn : Func} {c : Code} (hf : P.funcs[f]? = some fn) (hb : fn.body = some c) (hro : B.ro = none) {G : Gh} {w : World} {vs : Array Value} {σ0 : AS} (hr : R (B.d []) G σ0 w { tmps := vs ++ Array.replicate (fn.ntmps - vs.size) undef, defers := [] }) {K : AV → AS → Prop}
    (h : SP P B c σ0 (fun e τ => (e = .normal ∨ e = .ret) ∧ ∃ av, retA TT τ fn.results.toList = some av ∧ K av τ)) : Calls P f vs w fun e w' => ∃ v G' τ av a', e = .returned v ∧ R (B.d []) G' τ w' a' ∧ Rv G' av v ∧ K av τ := by
  refine (callsIn_wide (n := 0)).1 (callsIn_of_wp_marks (F := Fence.wide) hf hb trivial ?_)
  have h1 := h [] G w _ hr
  rw [hro, FR_none] at h1
  refine wpIn_mono h1 fun e a' w' hq => ?_
  obtain ⟨D, G', τ, hr', he, av, hav, hK⟩ := hq
  have hd : a'.defers = D.map mark := hr'.defers
  have := leaves_ok (B := B) hTT hav (Rf := fun e w' => ∃ v G' τ av a', e = .returned v ∧ R (B.d []) G' τ w' a' ∧ Rv G' av v ∧ K av τ) D G' w' a' hr' fun w2 v h2 h3 => ⟨v, G', τ, av, _, rfl, h2, h3, hK⟩
  rw [← hd] at this
  rcases he with rfl | rfl
  · exact this
  · exact this
theorem entry_slots {args : List AV} {vs : Array Value} {G : Gh} {n : Nat} (hn : args.length ≤ n) (hvs : vs.size = args.length) (hargs : ∀ i, i < args.length → Rv G (args.getD i .any) (vs.getD i undef)) {m : Nat} : ∀ t av, lk (enumA 0 args) t = some av → t < n ∧ Rv G av ((vs ++ Array.replicate m undef).getD t undef) := fun t av ht => by
  obtain ⟨_, h2, h3⟩ := lk_enumA args 0 t av ht
  simp only [Nat.zero_add, Nat.sub_zero] at h2 h3
  subst h3
  refine ⟨by omega, ?_⟩
  have := hargs t h2
  have e : (vs ++ Array.replicate m undef).getD t undef = vs.getD t undef := by
    rw [Array.getD_eq_getD_getElem?, Array.getElem?_append_left (by omega), ← Array.getD_eq_getD_getElem?]
  rw [e]; exact this
theorem fn_sp (hTT : TTok P TT) {f : FuncId} {fn : Func} {c : Code} (hf : P.funcs[f]? = some fn) (hb : fn.body = some c) {args : List AV} {res : AV} (hn : args.length ≤ fn.ntmps) (h : ∀ B : Base, B.I0 = [] → B.ro = none → SP P B c ⟨fn.ntmps, enumA 0 args, [], []⟩ (PostP TT fn res)) : FnPure P f args res := by
  intro S w vs hS hvs hargs
  have h0 : R (Base.d { w0 := w, S0 := S, bs := [] } []) (G0 S) ⟨fn.ntmps, enumA 0 args, [], []⟩ w { tmps := vs ++ Array.replicate (fn.ntmps - vs.size) undef, defers := [] } :=
    ⟨by simp; omega, entry_slots hn hvs hargs, rfl, ⟨rfl, rfl, rfl, Nat.le_refl _, fun _ _ _ => rfl, fun k o hk => by simp [lk] at hk, fun k o hk => by simp [lk] at hk, fun k k' o o' hk => by simp [lk] at hk, hS.1, fun k o hk => by simp [lk] at hk, fun b o u h => .inl h, fun b o u h => h, fun k l hk => (by cases hk), fun r hr => (by cases hr), ⟨List.nodup_nil, fun k l hk => (by cases hk), hS.2⟩⟩, fun k hk => by simp [G0] at hk⟩
  refine (call_sp hTT hf hb rfl h0 (K := fun av τ => τ.shut (fun _ => true) av = some res) (sp_mono (h { w0 := w, S0 := S, bs := [] } rfl rfl) fun e τ h => h)).mono fun e w' hq => ?_
  obtain ⟨v, G', τ, av, a', rfl, hr', h2, hsh⟩ := hq
  have hfz := hr'.freeze (fun _ => true) [] (fun k ob hk => by simp [lk] at hk)
  refine ⟨v, (G'.frz τ (fun _ => true) w').S, rfl, ⟨hr'.heap.os, hr'.heap.tape, hr'.heap.output, hr'.heap.size, fun k hk => hr'.heap.old k hk (by simp [Base.d])⟩, hfz.heap.keep, hfz.heap.st, fun b o u hs => ?_, ?_⟩
  · rcases hfz.heap.fresh b o u hs with h | h | h
    · exact .inl h
    · exact .inr h
    · simp [Base.d] at h
  · exact shut_ok hr' (D := fun _ => true) (T := (G'.frz τ (fun _ => true) w').S) (L := fun _ => none) (frz_le hr' _).S (fun k ob b x p u hD hk hl hc => by rw [frz_in hD hk hl]; exact hc) h2 hsh
end sound
end Go.Proofs.YtafikekndefjcaaDoor
