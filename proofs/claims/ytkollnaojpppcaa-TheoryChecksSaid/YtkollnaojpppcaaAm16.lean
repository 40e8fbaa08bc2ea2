/- An abstract machine for the text, part sixteen: regions that leave their order open; plain lemmas over any program; no condition. -/
import Derived.Test.YtkollnaojpppcaaAm15
namespace Go.Proofs.Ytkollnaojpppcaa
open Go.RowKit

/-- What an operation does to the abstract state; what it looks at. -/
structure Ef where
  dst : Option Nat
  av : AV
  u : List (Nat × Option AObj)
  looks : List Nat
  fp : List Nat
  pt : Option (Nat × Nat × Nat × List AV) := none
  deriving Inhabited
/-- Some cells of a row are written. -/
def wr : List AV → Nat → List AV → List AV
  | [], _, _ => []
  | a :: r, 0, [] => a :: r
  | _ :: r, 0, c :: cs => c :: wr r 0 cs
  | a :: r, j + 1, cs => a :: wr r j cs
def wrO (ob : AObj) (e j : Nat) (cs : List AV) : AObj := { ob with xs := ob.xs.set e (wr (ob.xs.getD e []) j cs) }
def pntO (objs : List (Nat × AObj)) : Option (Nat × Nat × Nat × List AV) → List (Nat × AObj)
  | none => objs
  | some (k, e, j, cs) => match lk objs k with
    | some ob => st objs k (wrO ob e j cs)
    | none => objs
def Ef.pk (e : Ef) : List (Nat × Option AObj) := match e.pt with
  | some p => [(p.1, none)]
  | none => []
def Ef.app (e : Ef) (σ : AS) : AS := AS.put ⟨σ.n, σ.slots, pntO (updO σ.objs e.u) e.pt, updI σ.ids (e.u ++ e.pk)⟩ e.dst e.av
def Ef.keys (e : Ef) : List Nat := (e.u ++ e.pk).map (·.1)
theorem wr_get : ∀ (r : List AV) (j : Nat) (cs : List AV) (i : Nat), (wr r j cs)[i]? = if j ≤ i ∧ i < j + cs.length ∧ i < r.length then cs[i - j]? else r[i]?
  | [], j, cs, i => by
    rw [if_neg (by simp)]; simp [wr]
  | a :: r, 0, [], i => by
    rw [if_neg (by simp)]; simp [wr]
  | a :: r, 0, c :: cs, i => by
    cases i with
    | zero => simp [wr]
    | succ i =>
      have := wr_get r 0 cs i
      simp only [wr, List.getElem?_cons_succ, this, List.length_cons, Nat.zero_le, true_and, Nat.zero_add, Nat.sub_zero]
      by_cases h : i < cs.length ∧ i < r.length
      · rw [if_pos h, if_pos (by omega)]
      · rw [if_neg h, if_neg (by omega)]
  | a :: r, j + 1, cs, i => by
    cases i with
    | zero => simp [wr]
    | succ i =>
      have := wr_get r j cs i
      simp only [wr, List.getElem?_cons_succ, this, List.length_cons]
      by_cases h : j ≤ i ∧ i < j + cs.length ∧ i < r.length
      · rw [if_pos h, if_pos (by omega), show i + 1 - (j + 1) = i - j by omega]
      · rw [if_neg h, if_neg (by omega)]
theorem wr_len : ∀ (r : List AV) (j : Nat) (cs : List AV), (wr r j cs).length = r.length
  | [], _, _ => by simp [wr]
  | a :: r, 0, [] => by simp [wr]
  | a :: r, 0, c :: cs => by simp [wr, wr_len r 0 cs]
  | a :: r, j + 1, cs => by simp [wr, wr_len r j cs]
theorem wr_spl {r : List AV} {j : Nat} {cs : List AV} (h : j + cs.length ≤ r.length) : wr r j cs = spl r j cs := by
  apply List.ext_getElem?
  intro i
  rw [wr_get]
  unfold spl
  by_cases h1 : j ≤ i ∧ i < j + cs.length ∧ i < r.length
  · rw [if_pos h1, List.getElem?_append_left (by simp; omega), List.getElem?_append_right (by simp; omega)]
    simp [show min j r.length = j by omega]
  · rw [if_neg h1]
    by_cases h2 : i < j
    · rw [List.getElem?_append_left (by simp; omega), List.getElem?_append_left (by simp; omega), List.getElem?_take_of_lt h2]
    · rw [List.getElem?_append_right (by simp; omega)]
      simp only [List.length_append, List.length_take, List.getElem?_drop]
      by_cases h3 : i < r.length
      · congr 1; omega
      · rw [List.getElem?_eq_none (by omega), List.getElem?_eq_none (by omega)]
theorem wr_comm {r : List AV} {j j' : Nat} {cs cs' : List AV} (h : j + cs.length ≤ j' ∨ j' + cs'.length ≤ j) : wr (wr r j cs) j' cs' = wr (wr r j' cs') j cs := by
  apply List.ext_getElem?
  intro i
  simp only [wr_get, wr_len]
  by_cases h1 : j ≤ i ∧ i < j + cs.length ∧ i < r.length
  · rw [if_pos h1, if_pos h1, if_neg (by omega)]
  · rw [if_neg h1, if_neg h1]
/-- Two writes that may change places. -/
def Apart (p q : Nat × Nat × Nat × List AV) : Prop := p.1 ≠ q.1 ∨ p.2.1 ≠ q.2.1 ∨ p.2.2.1 + p.2.2.2.length ≤ q.2.2.1 ∨ q.2.2.1 + q.2.2.2.length ≤ p.2.2.1
theorem lk_pntO {objs : List (Nat × AObj)} {p : Nat × Nat × Nat × List AV} (k : Nat) : lk (pntO objs (some p)) k = if p.1 = k then (lk objs k).map (fun ob => wrO ob p.2.1 p.2.2.1 p.2.2.2) else lk objs k := by
  obtain ⟨q, e, j, cs⟩ := p
  simp only [pntO]
  cases h : lk objs q with
  | none =>
    simp only
    by_cases e' : q = k
    · subst e'; rw [if_pos rfl, h]; rfl
    · rw [if_neg e']
  | some ob =>
    simp only
    rw [lk_st]
    by_cases e' : q = k
    · subst e'; rw [if_pos rfl, if_pos rfl, h]; rfl
    · rw [if_neg e', if_neg e']
theorem set_getD_ne {α : Type} {l : List α} {e f : Nat} (h : e ≠ f) (x d : α) : (l.set e x).getD f d = l.getD f d := by
  simp [List.getD, List.getElem?_set, h]
theorem wrO_comm {ob : AObj} {e j e' j' : Nat} {cs cs' : List AV} (h : e ≠ e' ∨ j + cs.length ≤ j' ∨ j' + cs'.length ≤ j) : wrO (wrO ob e j cs) e' j' cs' = wrO (wrO ob e' j' cs') e j cs := by
  unfold wrO
  simp only [AObj.mk.injEq, true_and]
  by_cases he : e = e'
  · subst he
    have h' : j + cs.length ≤ j' ∨ j' + cs'.length ≤ j := h.resolve_left (fun h => h rfl)
    rw [List.set_set, List.set_set]
    by_cases hlt : e < ob.xs.length
    · have h1 : ∀ x : List AV, (ob.xs.set e x).getD e [] = x := fun x => by simp [List.getD, hlt]
      rw [h1, h1, wr_comm h']
    · rw [List.set_eq_of_length_le (by omega), List.set_eq_of_length_le (by omega)]
  · rw [set_getD_ne he, set_getD_ne (Ne.symm he), List.set_comm _ _ he]
theorem pntO_comm {objs : List (Nat × AObj)} {p q : Nat × Nat × Nat × List AV} (h : Apart p q) (k : Nat) : lk (pntO (pntO objs (some p)) (some q)) k = lk (pntO (pntO objs (some q)) (some p)) k := by
  simp only [lk_pntO]
  by_cases h1 : p.1 = k
  · by_cases h2 : q.1 = k
    · simp only [h1, h2, if_true]
      cases lk objs k with
      | none => rfl
      | some ob =>
        simp only [Option.map_some]
        rw [wrO_comm (h.resolve_left (fun h => h (h1.trans h2.symm)))]
    · simp only [h1, h2, if_true, if_false]
  · by_cases h2 : q.1 = k
    · simp only [h1, h2, if_true, if_false]
    · simp only [h1, h2, if_false]
/-- How great an object is. -/
def shp (objs : List (Nat × AObj)) (k : Nat) : Option (Nat × Nat) := (lk objs k).map fun ob => (ob.xs.length, ob.sz)
theorem shp_pntO {objs : List (Nat × AObj)} (p : Option (Nat × Nat × Nat × List AV)) (k : Nat) : shp (pntO objs p) k = shp objs k := by
  cases p with
  | none => rfl
  | some p =>
    unfold shp
    rw [lk_pntO]
    split
    · cases lk objs k with
      | none => rfl
      | some ob => simp [wrO]
    · rfl

section eff
variable (TT : TTab) (PT : PTab)
/-- The slots that an operation looks at. -/
def looksO (ops : Array Oper) (o : Oper) : List Nat :=
  (o.op.operands.toList.filterMap fun | .tmp t => some t | _ => none) ++ (match o.guard with
    | some (j, _) => (((ops[j]?).bind (·.dst)).toList)
    | none => [])
/-- Which cells a store writes. -/
def ptOf (σ : AS) (o : Oper) : Option (Nat × Nat × Nat × List AV) := match o.op with
  | .store _ p x => match σ.ev p, σ.ev x with
    | some (.ptr k e j), some av => some (k, e, j, av.cells)
    | _, _ => none
  | _ => none
/-- It looks at no object. -/
def light (o : Oper) : Bool := match o.op with
  | .move _ | .assign _ | .pick _ _ _ | .nilCheck _ | .unOp _ _ _ | .binOp _ _ _ _ _ | .convert _ _ _ | .extract _ _ | .fieldAddr _ _ _ | .field _ _ _ => true
  | _ => false
def fpA (id : Nat) (σ : AS) (o : Oper) : List Nat := if light o = true then [] else id :: fpo σ o.op.operands.toList
theorem core_light {σ τ : AS} {id : Nat} {o : Oper} (hl : light o = true) (hev : ∀ x ∈ o.op.operands.toList, τ.ev x = σ.ev x) : core TT PT τ id o = core TT PT σ id o := by
  unfold light at hl
  unfold core
  split at hl <;> rename_i ho <;> (try rw [ho] at hev) <;> (try simp only [Op.operands, Array.toList_append, List.mem_append] at hev) <;> (try simp only [List.mem_cons, List.not_mem_nil, or_false, forall_eq_or_imp, forall_eq] at hev) <;> (try simp only [ho])
  · rw [hev]
  · rw [hev]
  · obtain ⟨h1, h2, h3⟩ := hev
    unfold cPick
    rw [h1]
    split
    · rename_i t _; cases t <;> simp [h2, h3]
    · rfl
  · simp only [cNil, hev]
  · simp only [cUn, hev]
  · obtain ⟨h1, h2⟩ := hev
    simp only [cBin, cNilS, h1, h2]
  · simp only [cConv, hev]
  · simp only [cExt, hev]
  · simp only [cFA, hev]
  · simp only [cF, hev]
  · cases hl
def effA (ops : Array Oper) (id : Nat) (σ : AS) (o : Oper) : Option Ef :=
  if dstOk σ o = true then
    match wantA σ ops o with
    | some true => match core TT PT σ id o with
      | some r => match ptOf σ o with
        | some p => some ⟨o.dst, r.1, [], looksO ops o, [], some p⟩
        | none => some ⟨o.dst, r.1, r.2, looksO ops o, fpA id σ o, none⟩
      | none => none
    | some false => some ⟨o.dst, .v undef, [], looksO ops o, [], none⟩
    | none => none
  else none
/-- The operations of a region, one after the other, and what each does. -/
def runE (ops : Array Oper) : List Oper → Nat → AS → Option (AS × List Ef)
  | [], _, σ => some (σ, [])
  | o :: r, id, σ => match effA TT PT ops id σ o with
    | some e => match runE ops r (id + 1) (e.app σ) with
      | some (σ', l) => some (σ', e :: l)
      | none => none
    | none => none
end eff

/-- Each once. -/
def dd : List Nat → List Nat
  | [] => []
  | x :: r => if (dd r).contains x then dd r else x :: dd r
theorem mem_dd {x : Nat} : ∀ {l : List Nat}, x ∈ dd l ↔ x ∈ l
  | [] => Iff.rfl
  | y :: r => by
    have ih := mem_dd (x := x) (l := r)
    unfold dd
    split
    · rename_i h
      rw [ih, List.mem_cons]
      constructor
      · exact .inr
      · rintro (rfl | h2)
        · exact ih.1 (by simpa using h)
        · exact h2
    · rw [List.mem_cons, List.mem_cons, ih]
/-- The operations that must come before each. -/
def ancs (ops : List Oper) : List (List Nat) :=
  ops.foldl (fun acc o => acc ++ [dd (o.after.toList.flatMap fun e => if Region.binds .any e then e.on :: acc.getD e.on [] else [])]) []
def dis (a b : List Nat) : Bool := a.all fun x => !(b.contains x)
/-- Two stores into different cells. -/
def sepE (a b : Ef) : Bool := a.u.isEmpty && b.u.isEmpty && match a.pt, b.pt with
  | some p, some q => p.2.1 != q.2.1 || Nat.ble (p.2.2.1 + p.2.2.2.length) q.2.2.1 || Nat.ble (q.2.2.1 + q.2.2.2.length) p.2.2.1
  | _, _ => false
/-- Two operations that may change places. -/
def free (a b : Ef) : Bool :=
  (match a.dst with | some d => !(b.looks.contains d) && b.dst != some d | none => true) && (match b.dst with | some d => !(a.looks.contains d) | none => true) && dis a.keys b.fp && dis b.keys a.fp && (dis a.keys b.keys || sepE a b)
/-- Operations in whatever order come to the same. -/
def ordOk (ops : List Oper) (es : List Ef) : Bool :=
  (List.range ops.length).all (fun j => ((ops[j]?).map fun o => o.after.toList.all fun e => !(Region.binds .any e) || decide (e.on < j)).getD false) &&
  (List.range es.length).all fun j => (List.range j).all fun i => ((ancs ops).getD j []).contains i || free (es.getD i default) (es.getD j default)

section sound
variable {P : Program} {TT : TTab} {PT : PTab} {B : Base}

/-- The same to look at. -/
structure StEq (σ τ : AS) : Prop where
  n : σ.n = τ.n
  s : ∀ t, lk σ.slots t = lk τ.slots t
  o : ∀ k, lk σ.objs k = lk τ.objs k
  i : ∀ k, k ∈ σ.ids ↔ k ∈ τ.ids
theorem StEq.R {σ τ : AS} (h : StEq σ τ) {G : Gh} {w : World} {a : Act} (hr : R B G σ w a) : R B G τ w a := by
  have e : lk σ.objs = lk τ.objs := funext h.o
  exact ⟨by rw [← h.n]; exact hr.n, fun t av ht => by rw [← h.n]; exact hr.slot t av (by rw [h.s]; exact ht), hr.defers, by rw [← e]; exact hr.heap, fun k hk => (h.i k).1 (hr.ids k hk)⟩

theorem updO_out {u : List (Nat × Option AObj)} : ∀ {objs : List (Nat × AObj)} {k : Nat}, k ∉ u.map (·.1) → lk (updO objs u) k = lk objs k := by
  induction u with
  | nil => intros; rfl
  | cons p r ih =>
    obtain ⟨q, x⟩ := p
    intro objs k hk
    simp only [List.map_cons, List.mem_cons, not_or] at hk
    cases x with
    | some o => simp only [updO]; rw [ih hk.2, lk_st, if_neg (Ne.symm hk.1)]
    | none => simp only [updO]; rw [ih hk.2, lk_dl, if_neg (Ne.symm hk.1)]
theorem updO_in {u : List (Nat × Option AObj)} : ∀ {objs objs' : List (Nat × AObj)} {k : Nat}, k ∈ u.map (·.1) ∨ lk objs k = lk objs' k → lk (updO objs u) k = lk (updO objs' u) k := by
  induction u with
  | nil => intro objs objs' k h; rcases h with h | h; simp at h; exact h
  | cons p r ih =>
    obtain ⟨q, x⟩ := p
    intro objs objs' k hk
    simp only [List.map_cons, List.mem_cons] at hk
    cases x with
    | some o =>
      simp only [updO]
      refine ih ?_
      by_cases e : q = k
      · right; simp [lk_st, e]
      · rcases hk with (h | h) | h
        · exact absurd h.symm e
        · exact .inl h
        · right; simp [lk_st, e, h]
    | none =>
      simp only [updO]
      refine ih ?_
      by_cases e : q = k
      · right; simp [lk_dl, e]
      · rcases hk with (h | h) | h
        · exact absurd h.symm e
        · exact .inl h
        · right; simp [lk_dl, e, h]

/-- Effects one after the other. -/
def apps (E : Nat → Ef) (l : List Nat) (σ : AS) : AS := l.foldl (fun s i => (E i).app s) σ
theorem app_n (e : Ef) (σ : AS) : (e.app σ).n = σ.n := by
  unfold Ef.app AS.put; cases e.dst <;> rfl
theorem app_objs (e : Ef) (σ : AS) : (e.app σ).objs = pntO (updO σ.objs e.u) e.pt := by
  unfold Ef.app AS.put; cases e.dst <;> rfl
theorem app_ids (e : Ef) (σ : AS) : (e.app σ).ids = updI σ.ids (e.u ++ e.pk) := by
  unfold Ef.app AS.put; cases e.dst <;> rfl
theorem app_slot (e : Ef) (σ : AS) (t : Nat) : lk (e.app σ).slots t = if e.dst = some t then some e.av else lk σ.slots t := by
  unfold Ef.app AS.put
  cases h : e.dst with
  | none => simp
  | some d => simp only [lk_st, Option.some.injEq]
theorem pntO_congr {objs objs' : List (Nat × AObj)} (p : Option (Nat × Nat × Nat × List AV)) {k : Nat} (h : lk objs k = lk objs' k) : lk (pntO objs p) k = lk (pntO objs' p) k := by
  cases p with
  | none => exact h
  | some p => rw [lk_pntO, lk_pntO, h]
theorem app_obj_congr (e : Ef) {σ τ : AS} {k : Nat} (h : lk σ.objs k = lk τ.objs k) : lk (e.app σ).objs k = lk (e.app τ).objs k := by
  rw [app_objs, app_objs]
  exact pntO_congr _ (updO_in (.inr h))
theorem keys_u {e : Ef} {k : Nat} (h : k ∈ e.u.map (·.1)) : k ∈ e.keys := by
  unfold Ef.keys; rw [List.map_append]; exact List.mem_append_left _ h
theorem keys_pt {e : Ef} {p : Nat × Nat × Nat × List AV} (h : e.pt = some p) : p.1 ∈ e.keys := by
  unfold Ef.keys Ef.pk; rw [h]; simp
theorem app_obj_out {e : Ef} {σ : AS} {k : Nat} (h : k ∉ e.keys) : lk (e.app σ).objs k = lk σ.objs k := by
  rw [app_objs]
  have h1 : lk (updO σ.objs e.u) k = lk σ.objs k := updO_out fun hk => h (keys_u hk)
  cases hp : e.pt with
  | none => exact h1
  | some p =>
    rw [lk_pntO, if_neg (fun hk : p.1 = k => h (hk ▸ keys_pt hp))]
    exact h1
theorem app_shp (e : Ef) (σ : AS) (k : Nat) : shp (e.app σ).objs k = shp (updO σ.objs e.u) k := by
  rw [app_objs, shp_pntO]
theorem apps_n (E : Nat → Ef) : ∀ (l : List Nat) (σ : AS), (apps E l σ).n = σ.n
  | [], _ => rfl
  | i :: l, σ => by show (apps E l ((E i).app σ)).n = _; rw [apps_n E l, app_n]
theorem apps_slot (E : Nat → Ef) (t : Nat) : ∀ (l : List Nat) (σ τ : AS), lk σ.slots t = lk τ.slots t → lk (apps E l σ).slots t = lk (apps E (l.filter fun i => decide ((E i).dst = some t)) τ).slots t
  | [], σ, τ, h => h
  | i :: l, σ, τ, h => by
    show lk (apps E l ((E i).app σ)).slots t = _
    by_cases hw : (E i).dst = some t
    · rw [List.filter_cons_of_pos (by simpa using hw)]
      exact apps_slot E t l _ _ (by rw [app_slot, app_slot, if_pos hw, if_pos hw])
    · rw [List.filter_cons_of_neg (by simpa using hw)]
      exact apps_slot E t l _ _ (by rw [app_slot, if_neg hw]; exact h)
theorem apps_obj (E : Nat → Ef) (k : Nat) : ∀ (l : List Nat) (σ τ : AS), lk σ.objs k = lk τ.objs k → lk (apps E l σ).objs k = lk (apps E (l.filter fun i => (E i).keys.contains k) τ).objs k
  | [], σ, τ, h => h
  | i :: l, σ, τ, h => by
    show lk (apps E l ((E i).app σ)).objs k = _
    by_cases hw : k ∈ (E i).keys
    · rw [List.filter_cons_of_pos (by simpa using hw)]
      exact apps_obj E k l _ _ (app_obj_congr _ h)
    · rw [List.filter_cons_of_neg (by simpa using hw)]
      exact apps_obj E k l _ _ (by rw [app_obj_out hw]; exact h)
theorem apps_congr (E : Nat → Ef) (k : Nat) : ∀ (l : List Nat) (σ τ : AS), lk σ.objs k = lk τ.objs k → lk (apps E l σ).objs k = lk (apps E l τ).objs k
  | [], σ, τ, h => h
  | i :: l, σ, τ, h => apps_congr E k l _ _ (app_obj_congr _ h)
theorem apps_shp (E : Nat → Ef) (k : Nat) : ∀ (l : List Nat) (σ τ : AS), shp σ.objs k = shp τ.objs k → shp (apps E l σ).objs k = shp (apps E (l.filter fun i => ((E i).u.map (·.1)).contains k) τ).objs k
  | [], σ, τ, h => h
  | i :: l, σ, τ, h => by
    show shp (apps E l ((E i).app σ)).objs k = _
    by_cases hw : k ∈ (E i).u.map (·.1)
    · rw [List.filter_cons_of_pos (by simpa using hw)]
      exact apps_shp E k l _ _ (by rw [app_shp, app_shp]; unfold shp; rw [updO_in (.inl hw)])
    · rw [List.filter_cons_of_neg (by simpa using hw)]
      exact apps_shp E k l _ _ (by rw [app_shp]; unfold shp at h ⊢; rw [updO_out hw]; exact h)
/-- It may come later. -/
theorem apps_comm (E : Nat → Ef) (i k : Nat) : ∀ (l : List Nat) (σ : AS), (∀ c ∈ l, ∃ p q, (E i).u = [] ∧ (E c).u = [] ∧ (E i).pt = some p ∧ (E c).pt = some q ∧ Apart p q) → lk ((E i).app (apps E l σ)).objs k = lk (apps E l ((E i).app σ)).objs k
  | [], σ, _ => rfl
  | c :: l, σ, h => by
    show lk ((E i).app (apps E l ((E c).app σ))).objs k = lk (apps E l ((E c).app ((E i).app σ))).objs k
    rw [apps_comm E i k l _ (fun d hd => h d (List.mem_cons_of_mem _ hd))]
    refine apps_congr E k l _ _ ?_
    obtain ⟨p, q, h1, h2, h3, h4, h5⟩ := h c List.mem_cons_self
    rw [app_objs, app_objs, app_objs, app_objs, h1, h2, h3, h4]
    simp only [updO]
    exact (pntO_comm h5 k).symm
theorem apps_id (E : Nat → Ef) (k : Nat) : ∀ (l : List Nat) (σ : AS), k ∈ (apps E l σ).ids ↔ k ∈ σ.ids ∨ ∃ i ∈ l, k ∈ (E i).keys
  | [], σ => by simp [apps]
  | i :: l, σ => by
    show k ∈ (apps E l ((E i).app σ)).ids ↔ _
    rw [apps_id E k l, app_ids, updI_mem]
    simp only [List.mem_cons, exists_eq_or_imp]
    constructor
    · rintro ((h | h) | h)
      · exact .inr (.inl h)
      · exact .inl h
      · exact .inr (.inr h)
    · rintro (h | h | h)
      · exact .inl (.inr h)
      · exact .inl (.inl h)
      · exact .inr h

/-- An operation does what its effect says, wherever what it looks at is the same. -/
theorem effA_ok (hTT : TTok P TT) (hPT : PTok P PT) {ops : Array Oper} {id : Nat} {σ : AS} {o : Oper} {e : Ef} (h : effA TT PT ops id σ o = some e) {τ : AS} (hn : τ.n = σ.n) (hs : ∀ t ∈ e.looks, lk τ.slots t = lk σ.slots t) (hobj : ∀ k ∈ e.fp, lk τ.objs k = lk σ.objs k) (hid : id ∈ e.fp → (id ∈ τ.ids ↔ id ∈ σ.ids)) (hsh : ∀ p, e.pt = some p → shp τ.objs p.1 = shp σ.objs p.1)
    {G : Gh} {w : World} {a : Act} (hr : R B G τ w a) (K : Act → World → Prop) (Q : Exit → Act → World → Prop) (hK : ∀ G' w' a', R B G' (e.app τ) w' a' → K a' w') :
    if Region.wanted o (yielded ops a.tmps) = true then o.wpIn (FR B.ro) 0 P a w K Q else (∀ f, o.about P w a.eval = some f → (FR B.ro).fn f) ∧ K (a.put o.dst undef) w := by
  unfold effA at h
  split at h
  · rename_i hd
    have hd' : dstOk τ o = true := by unfold dstOk at hd ⊢; rw [hn]; exact hd
    have hlk : e.looks = looksO ops o := by
      split at h
      · split at h
        · split at h <;> (cases h; rfl)
        · cases h
      · cases h; rfl
      · cases h
    have hev : ∀ x ∈ o.op.operands.toList, τ.ev x = σ.ev x := fun x hx => by
      cases x with
      | tmp t => exact hs t (by rw [hlk, looksO, List.mem_append]; exact .inl (List.mem_filterMap.2 ⟨.tmp t, hx, rfl⟩))
      | _ => rfl
    have hw : wantA τ ops o = wantA σ ops o := by
      unfold wantA
      split
      · rfl
      · rename_i j want hg
        split
        · rename_i t ht
          rw [hs t (by rw [hlk, looksO, List.mem_append]; right; rw [hg]; simp only [ht]; simp)]
        · rfl
    split at h
    · rename_i hwt
      rw [← hw] at hwt
      rw [if_pos (wantA_ok hr hwt)]
      split at h
      · rename_i r hc
        split at h
        · rename_i p hp
          cases h
          unfold ptOf at hp
          split at hp
          · rename_i t px x hop
            have hcore : core TT PT σ id o = cStore TT σ t px x := by unfold core; rw [hop]
            rw [hcore] at hc
            have e1 : τ.ev px = σ.ev px := hev px (by rw [hop]; simp [Op.operands])
            have e2 : τ.ev x = σ.ev x := hev x (by rw [hop]; simp [Op.operands])
            unfold cStore at hc
            split at hc
            · rename_i ti k e j av hti hpx hx
              rw [hpx, hx] at hp
              cases hp
              split at hc
              · rename_i ob hob
                split at hc
                · rename_i hcc
                  obtain ⟨g1, g2, g3, g4⟩ := hcc
                  cases hc
                  have hs2 := hsh _ rfl
                  simp only at hs2
                  unfold shp at hs2
                  rw [hob] at hs2
                  cases hob' : lk τ.objs k with
                  | none => rw [hob'] at hs2; cases hs2
                  | some ob' =>
                    rw [hob'] at hs2
                    simp only [Option.map_some, Option.some.injEq, Prod.mk.injEq] at hs2
                    obtain ⟨s1, s2⟩ := hs2
                    have hco := ok_store (σ := τ) (hTT _ _ hti) hop (e1.trans hpx) hob' (by rw [s1]; exact g1) (e2.trans hx) g3 g4 (by rw [s2]; exact g2)
                    have hrow : (ob'.xs.getD e []).length = ob'.sz := by
                      obtain ⟨_, _, _, _, _, _, q4, _⟩ := hr.heap.obj k ob' hob'
                      exact q4 e (by rw [s1]; exact g1)
                    have happ : ∀ xx : AV, (AS.put (τ.upd [(k, some { ob' with xs := ob'.xs.set e (spl (ob'.xs.getD e []) j av.cells) })]) o.dst xx) = (Ef.app ⟨o.dst, xx, [], looksO ops o, [], some (k, e, j, av.cells)⟩ τ) := fun xx => by
                      rw [← wr_spl (by rw [hrow, s2, g4]; exact g2)]
                      unfold Ef.app AS.upd Ef.pk pntO wrO
                      simp only [hob', updO, List.nil_append, updI]
                    exact wp_FR (fun c hcc => by rw [hop] at hcc; cases hcc) (hco B G w a hr K Q fun G' w' xv hle hr' hxv => hK G' w' _ (by
                      rw [← happ]
                      exact hr'.put (fun d hdd => R.dst (G := G) (w := w) (a := a) hd' d hdd) hxv))
                · cases hc
              · cases hc
            · cases hc
          · cases hp
        · cases h
          have hc' : core TT PT τ id o = some r := by
            by_cases hlt : light o = true
            · rw [core_light TT PT hlt hev]; exact hc
            · unfold fpA at hobj hid
              rw [if_neg hlt] at hobj hid
              rw [core_congr hev (fun k hk => hobj k (List.mem_cons_of_mem _ hk)) (hid List.mem_cons_self)]; exact hc
          exact wp_FR (core_nd hc') (core_ok hTT hPT hc' B G w a hr K Q fun G' w' x hle hr' hx => hK G' w' _ (by
            have := hr'.put (fun d hdd => R.dst (G := G) (w := w) (a := a) hd' d hdd) hx
            unfold Ef.app Ef.pk pntO
            simpa [AS.upd] using this))
      · cases h
    · rename_i hwt
      rw [← hw] at hwt
      rw [if_neg (by rw [wantA_ok hr hwt]; simp)]
      cases h
      exact ⟨fun _ _ => trivial, hK G w _ (by
        have := hr.put (R.dst (G := G) (w := w) (a := a) hd') (.v undef)
        unfold Ef.app Ef.pk pntO
        simpa [updO, updI] using this)⟩
    · cases h
  · cases h

/-- What runE says of each operation. -/
theorem runE_get {ops : Array Oper} : ∀ {l : List Oper} {id : Nat} {σ σ' : AS} {es : List Ef}, runE TT PT ops l id σ = some (σ', es) → es.length = l.length ∧ σ' = apps (fun i => es.getD i default) (List.range es.length) σ ∧
    ∀ i o, l[i]? = some o → effA TT PT ops (id + i) (apps (fun i => es.getD i default) (List.range i) σ) o = some (es.getD i default)
  | [], id, σ, σ', es, h => by
    simp only [runE, Option.some.injEq, Prod.mk.injEq] at h
    obtain ⟨rfl, rfl⟩ := h
    exact ⟨rfl, rfl, fun i o hi => by simp at hi⟩
  | o :: r, id, σ, σ', es, h => by
    simp only [runE] at h
    split at h
    · rename_i e he
      split at h
      · rename_i s2 l2 hr
        cases h
        obtain ⟨h1, h2, h3⟩ := runE_get hr
        have hap : ∀ n, apps (fun i => (e :: l2).getD i default) (List.range (n + 1)) σ = apps (fun i => l2.getD i default) (List.range n) (e.app σ) := fun n => by
          unfold apps
          rw [List.range_succ_eq_map, List.foldl_cons, List.foldl_map]
          rfl
        refine ⟨by simp [h1], ?_, fun i o' hi => ?_⟩
        · rw [h2]; exact (hap _).symm
        · cases i with
          | zero => simp at hi; subst hi; exact he
          | succ i =>
            rw [hap]
            have := h3 i o' (by simpa using hi)
            rw [show id + (i + 1) = id + 1 + i by omega]
            simpa using this
      · cases h
    · cases h

theorem dis_ok {a b : List Nat} (h : dis a b = true) {x : Nat} (hx : x ∈ a) : x ∉ b := by
  have := List.all_eq_true.1 h x hx
  simpa using this
structure Free (a b : Ef) : Prop where
  d1 : ∀ d, a.dst = some d → d ∉ b.looks ∧ b.dst ≠ some d
  d2 : ∀ d, b.dst = some d → d ∉ a.looks
  k1 : ∀ k ∈ a.keys, k ∉ b.fp
  k2 : ∀ k ∈ b.keys, k ∉ a.fp
  k3 : (∀ k ∈ a.keys, k ∉ b.keys) ∨ ∃ p q, a.u = [] ∧ b.u = [] ∧ a.pt = some p ∧ b.pt = some q ∧ Apart p q
theorem free_ok {a b : Ef} (h : free a b = true) : Free a b := by
  unfold free at h
  simp only [Bool.and_eq_true] at h
  obtain ⟨⟨⟨⟨h1, h2⟩, h3⟩, h4⟩, h5⟩ := h
  refine ⟨fun d hd => ?_, fun d hd => ?_, fun k hk => dis_ok h3 hk, fun k hk => dis_ok h4 hk, ?_⟩
  rotate_left 2
  · simp only [Bool.or_eq_true] at h5
    rcases h5 with h5 | h5
    · exact .inl fun k hk => dis_ok h5 hk
    · right
      unfold sepE at h5
      simp only [Bool.and_eq_true, List.isEmpty_iff] at h5
      obtain ⟨⟨g1, g2⟩, g3⟩ := h5
      split at g3
      · rename_i p q hp hq
        refine ⟨p, q, g1, g2, hp, hq, ?_⟩
        simp only [Bool.or_eq_true, bne_iff_ne, ne_eq] at g3
        rcases g3 with (g3 | g3) | g3
        · exact .inr (.inl g3)
        · exact .inr (.inr (.inl (Nat.le_of_ble_eq_true g3)))
        · exact .inr (.inr (.inr (Nat.le_of_ble_eq_true g3)))
      · cases g3
  · rw [hd] at h1
    simp only [Bool.and_eq_true, bne_iff_ne, ne_eq] at h1
    exact ⟨by simpa using h1.1, h1.2⟩
  · rw [hd] at h2
    simpa using h2

/-- Ancestors. -/
theorem ancs_len (ops : List Oper) : (ancs ops).length = ops.length := by
  unfold ancs
  have : ∀ (l : List Oper) (acc : List (List Nat)), (l.foldl (fun acc o => acc ++ [dd (o.after.toList.flatMap fun e => if Region.binds .any e then e.on :: acc.getD e.on [] else [])]) acc).length = acc.length + l.length := by
    intro l
    induction l with
    | nil => intro acc; rfl
    | cons o l ih => intro acc; rw [List.foldl_cons, ih]; simp; omega
  simpa using this ops []
theorem ancs_snoc (ops : List Oper) (o : Oper) : ancs (ops ++ [o]) = ancs ops ++ [dd (o.after.toList.flatMap fun e => if Region.binds .any e then e.on :: (ancs ops).getD e.on [] else [])] := by
  unfold ancs; rw [List.foldl_append]; rfl
theorem ancs_get (ops : List Oper) : ∀ n, n ≤ ops.length → ∀ j o, j < n → ops[j]? = some o → ∀ i, i ∈ (ancs (ops.take n)).getD j [] → ∃ e ∈ o.after, Region.binds .any e = true ∧ (i = e.on ∨ i ∈ (ancs (ops.take j)).getD e.on [])
  | 0, _, j, o, hj, _, _, _ => by omega
  | n + 1, hn, j, o, hj, ho, i, hi => by
    have hlt : n < ops.length := by omega
    rw [List.take_succ_eq_append_getElem hlt, ancs_snoc] at hi
    by_cases hjn : j < n
    · have hlen : (ancs (ops.take n)).length = n := by rw [ancs_len]; simp; omega
      have : (ancs (ops.take n) ++ [dd (ops[n].after.toList.flatMap fun e => if Region.binds .any e then e.on :: (ancs (ops.take n)).getD e.on [] else [])]).getD j [] = (ancs (ops.take n)).getD j [] := by
        simp only [List.getD]; rw [List.getElem?_append_left (by omega)]
      rw [this] at hi
      exact ancs_get ops n (by omega) j o hjn ho i hi
    · have hjn' : j = n := by omega
      subst hjn'
      have hlen : (ancs (ops.take j)).length = j := by rw [ancs_len]; simp; omega
      have hoe : ops[j] = o := by
        have := List.getElem?_eq_some_iff.1 ho; exact this.2
      have : (ancs (ops.take j) ++ [dd (ops[j].after.toList.flatMap fun e => if Region.binds .any e then e.on :: (ancs (ops.take j)).getD e.on [] else [])]).getD j [] = dd (ops[j].after.toList.flatMap fun e => if Region.binds .any e then e.on :: (ancs (ops.take j)).getD e.on [] else []) := by
        simp only [List.getD]; rw [List.getElem?_append_right (by omega), hlen]; simp
      rw [this, hoe] at hi
      obtain ⟨e, he, hie⟩ := List.mem_flatMap.1 (mem_dd.1 hi)
      refine ⟨e, by simpa using he, ?_⟩
      split at hie
      · rename_i hb
        refine ⟨hb, ?_⟩
        rcases List.mem_cons.1 hie with h | h
        · exact .inl h
        · exact .inr h
      · cases hie
theorem ancs_take (ops : List Oper) {n j : Nat} (hj : j < n) (hn : n ≤ ops.length) : (ancs (ops.take n)).getD j [] = (ancs (ops.take (j + 1))).getD j [] := by
  induction n with
  | zero => omega
  | succ n ih =>
    by_cases h : j = n
    · subst h; rfl
    · rw [← ih (by omega) (by omega), List.take_succ_eq_append_getElem (show n < ops.length by omega), ancs_snoc]
      have hlen : (ancs (ops.take n)).length = n := by rw [ancs_len]; simp; omega
      simp only [List.getD]; rw [List.getElem?_append_left (by omega)]

variable {ops : Array Oper} {es : List Ef}

/-- A set of operations that holds whatever must come before its members. -/
def Closed (ops : Array Oper) (D : Nat → Bool) : Prop := ∀ j o, ops[j]? = some o → D j = true → ∀ e ∈ o.after, Region.binds .any e = true → D e.on = true
theorem closed_anc (D : Nat → Bool) (hlow : ∀ j o, ops[j]? = some o → ∀ e ∈ o.after, Region.binds .any e = true → e.on < j) (hc : Closed ops D) : ∀ (j : Nat) (o : Oper), ops[j]? = some o → (∀ e ∈ o.after, Region.binds .any e = true → D e.on = true) → ∀ i ∈ (ancs ops.toList).getD j [], D i = true := by
  intro j
  induction j using Nat.strongRecOn with
  | _ j ih =>
    intro o ho hd i hi
    have hjl : j < ops.toList.length := by
      have := (Array.getElem?_eq_some_iff.1 ho).1
      simpa using this
    have hi' : i ∈ (ancs (ops.toList.take ops.toList.length)).getD j [] := by rw [List.take_length]; exact hi
    obtain ⟨e, he, hb, h⟩ := ancs_get ops.toList ops.toList.length (Nat.le_refl _) j o hjl (by simpa using ho) i hi'
    rcases h with rfl | h
    · exact hd e he hb
    · have hlt := hlow j o ho e he hb
      have hel : e.on < ops.size := by
        have := (Array.getElem?_eq_some_iff.1 ho).1; omega
      have hoe : ops[e.on]? = some ops[e.on] := by simp [hel]
      have hi2 : i ∈ (ancs ops.toList).getD e.on [] := by
        have h1 := ancs_take ops.toList (n := j) hlt (by omega)
        have h2 := ancs_take ops.toList (n := ops.toList.length) (j := e.on) (by omega) (Nat.le_refl _)
        rw [List.take_length] at h2
        rw [h2, ← h1]; exact h
      exact ih e.on hlt _ hoe (fun e' he' hb' => hc e.on _ hoe (hd e he hb) e' he' hb') i hi2

/-- Lists of indices with the same writers. -/
theorem filter_range_eq {n i : Nat} (hi : i ≤ n) {W D : Nat → Bool} (h : ∀ j, j < n → W j = true → (D j = true ↔ j < i)) : ((List.range n).filter D).filter W = (List.range i).filter W := by
  rw [List.filter_filter]
  have e : List.range n = List.range i ++ (List.range (n - i)).map (i + ·) := by
    rw [← List.range_add]; congr 1; omega
  rw [e, List.filter_append]
  have h1 : (List.range i).filter (fun a => W a && D a) = (List.range i).filter W := List.filter_congr fun j hj => by
    simp only [List.mem_range] at hj
    cases hw : W j
    · rfl
    · have := (h j (by omega) hw).2 hj; simp [this]
  have h2 : ((List.range (n - i)).map (i + ·)).filter (fun a => W a && D a) = [] := List.filter_eq_nil_iff.2 fun j hj => by
    simp only [List.mem_map, List.mem_range] at hj
    obtain ⟨q, hq, rfl⟩ := hj
    simp only [Bool.and_eq_true, not_and]
    intro hw hd
    have := (h (i + q) (by omega) hw).1 hd
    omega
  rw [h1, h2, List.append_nil]
theorem filter_range_snoc {n i : Nat} (hi : i < n) {W D : Nat → Bool} (hWi : W i = true) (h : ∀ j, j < n → j ≠ i → W j = true → D j = true → j < i) : ((List.range n).filter fun j => D j || j == i).filter W = ((List.range n).filter D).filter W ++ (if D i = true then [] else [i]) := by
  simp only [List.filter_filter]
  have e : List.range n = List.range i ++ (i :: (List.range (n - i - 1)).map (i + 1 + ·)) := by
    have h1 : List.range n = List.range i ++ (List.range (n - i)).map (i + ·) := by rw [← List.range_add]; congr 1; omega
    have h2 : n - i = (n - i - 1) + 1 := by omega
    rw [h1, h2, List.range_succ_eq_map, List.map_cons, List.map_map]
    simp only [Nat.add_zero, List.append_cancel_left_eq, List.cons.injEq, true_and]
    apply List.map_congr_left
    intro j _
    simp only [Function.comp]
    omega
  rw [e]
  simp only [List.filter_append, List.filter_cons]
  have hA : (List.range i).filter (fun a => W a && (D a || a == i)) = (List.range i).filter (fun a => W a && D a) := List.filter_congr fun j hj => by
    simp only [List.mem_range] at hj
    have : (j == i) = false := by simp; omega
    simp [this]
  have hB : ∀ f : Nat → Bool, (∀ a, f a = true → W a = true ∧ (D a = true ∨ a = i)) → ((List.range (n - i - 1)).map (i + 1 + ·)).filter f = [] := fun f hf => List.filter_eq_nil_iff.2 fun j hj hfj => by
    simp only [List.mem_map, List.mem_range] at hj
    obtain ⟨q, hq, rfl⟩ := hj
    obtain ⟨h1, h2⟩ := hf _ hfj
    rcases h2 with h2 | h2
    · have := h (i + 1 + q) (by omega) (by omega) h1 h2; omega
    · omega
  rw [hA, hB _ (fun a ha => by simp only [Bool.and_eq_true, Bool.or_eq_true, beq_iff_eq] at ha; exact ha), hB _ (fun a ha => by simp only [Bool.and_eq_true] at ha; exact ⟨ha.1, .inl ha.2⟩)]
  simp only [hWi, Bool.true_and, beq_self_eq_true, Bool.or_true, if_true]
  cases hD : D i <;> simp

theorem filter_range_ins {n i : Nat} (hi : i < n) {W D : Nat → Bool} (hWi : W i = true) (hDi : D i = false) : ∃ A C, ((List.range n).filter D).filter W = A ++ C ∧ ((List.range n).filter fun j => D j || j == i).filter W = A ++ i :: C ∧ ∀ c ∈ C, i < c ∧ c < n ∧ D c = true ∧ W c = true := by
  have e : List.range n = List.range i ++ (i :: (List.range (n - i - 1)).map (i + 1 + ·)) := by
    have h1 : List.range n = List.range i ++ (List.range (n - i)).map (i + ·) := by rw [← List.range_add]; congr 1; omega
    have h2 : n - i = (n - i - 1) + 1 := by omega
    rw [h1, h2, List.range_succ_eq_map, List.map_cons, List.map_map]
    simp only [Nat.add_zero, List.append_cancel_left_eq, List.cons.injEq, true_and]
    apply List.map_congr_left
    intro j _
    simp only [Function.comp]
    omega
  refine ⟨(List.range i).filter (fun a => W a && D a), ((List.range (n - i - 1)).map (i + 1 + ·)).filter (fun a => W a && D a), ?_, ?_, fun c hc => ?_⟩
  · rw [List.filter_filter, e, List.filter_append, List.filter_cons]
    simp [hDi]
  · rw [List.filter_filter, e, List.filter_append, List.filter_cons]
    have h1 : (List.range i).filter (fun a => W a && (D a || a == i)) = (List.range i).filter (fun a => W a && D a) := List.filter_congr fun j hj => by
      simp only [List.mem_range] at hj
      have : (j == i) = false := by simp; omega
      simp [this]
    have h2 : ((List.range (n - i - 1)).map (i + 1 + ·)).filter (fun a => W a && (D a || a == i)) = ((List.range (n - i - 1)).map (i + 1 + ·)).filter (fun a => W a && D a) := List.filter_congr fun j hj => by
      simp only [List.mem_map, List.mem_range] at hj
      obtain ⟨q, hq, rfl⟩ := hj
      have : (i + 1 + q == i) = false := by simp; omega
      simp [this]
    rw [h1, h2]
    simp [hWi]
  · simp only [List.mem_filter, List.mem_map, List.mem_range, Bool.and_eq_true] at hc
    obtain ⟨⟨q, hq, rfl⟩, h1, h2⟩ := hc
    exact ⟨by omega, by omega, h2, h1⟩
/-- THE REGION: every order comes to what the text's order comes to. -/
theorem any_ok (hTT : TTok P TT) (hPT : PTok P PT) {id : Nat} {σ σ' : AS} (h : runE TT PT ops ops.toList id σ = some (σ', es)) (hok : ordOk ops.toList es = true) {Q : Exit → Act → World → Prop} (hQ : ∀ G' w' a', R B G' σ' w' a' → Q .normal a' w') :
    ∀ (fuel : Nat) (listed : Array Bool), listed.size = ops.size → Closed ops (fun i => listed.getD i false) → ((List.range ops.size).filter fun i => !listed.getD i false).length ≤ fuel →
    ∀ {G : Gh} {w : World} {a : Act}, R B G (apps (fun i => es.getD i default) ((List.range es.length).filter fun i => listed.getD i false) σ) w a → wpAnyIn (FR B.ro) 0 P .any ops Q fuel listed a w := by
  obtain ⟨hlen, hfin, heff⟩ := runE_get h
  have hlen' : es.length = ops.size := by rw [hlen]; simp
  unfold ordOk at hok
  simp only [Bool.and_eq_true, List.all_eq_true, List.mem_range] at hok
  obtain ⟨hlow0, hfree0⟩ := hok
  have hlow : ∀ j o, ops[j]? = some o → ∀ e ∈ o.after, Region.binds .any e = true → e.on < j := fun j o ho e he hb => by
    have hj : j < ops.toList.length := by
      have := (Array.getElem?_eq_some_iff.1 ho).1
      simpa using this
    have h1 := hlow0 j hj
    have h2 : ops.toList[j]? = some o := by simpa using ho
    rw [h2] at h1
    simp only [Option.map_some, Option.getD_some, List.all_eq_true] at h1
    have h3 := h1 e (by simpa using he)
    rw [hb] at h3
    simpa using h3
  have hfree : ∀ i j, i < j → j < ops.size → i ∈ (ancs ops.toList).getD j [] ∨ Free (es.getD i default) (es.getD j default) := fun i j hij hj => by
    have := hfree0 j (by omega) i hij
    simp only [Bool.or_eq_true] at this
    rcases this with h1 | h1
    · exact .inl (by simpa using h1)
    · exact .inr (free_ok h1)
  intro fuel
  -- nothing is ready only when all is done
  have hdone : ∀ (listed : Array Bool), listed.size = ops.size → Region.ready .any ops listed = [] → ∀ i, i < ops.size → listed.getD i false = true := fun listed hsz hnil i => by
    induction i using Nat.strongRecOn with
    | _ i ih =>
      intro hi
      cases hl : listed.getD i false with
      | true => rfl
      | false =>
        exfalso
        have : i ∈ Region.ready .any ops listed := by
          rw [mem_ready]
          refine ⟨by simpa [show i < listed.size by omega] using hl, ops[i], by simp [hi], fun e he hb => ?_⟩
          have hlt := hlow i ops[i] (by simp [hi]) e he hb
          exact ih e.on hlt (by omega)
        rw [hnil] at this; cases this
  have hall : ∀ (listed : Array Bool), listed.size = ops.size → Region.ready .any ops listed = [] → ((List.range es.length).filter fun i => listed.getD i false) = List.range es.length := fun listed hsz hnil => List.filter_eq_self.2 fun i hi => by
    simp only [List.mem_range] at hi
    exact hdone listed hsz hnil i (by omega)
  induction fuel with
  | zero =>
    intro listed hsz hcl hcount G w a hr
    have hnil : Region.ready .any ops listed = [] := by
      apply List.eq_nil_iff_forall_not_mem.2
      intro i hi
      obtain ⟨h0, o, ho, _⟩ := mem_ready.1 hi
      have hlt := (Array.getElem?_eq_some_iff.1 ho).1
      have : i ∈ (List.range ops.size).filter fun i => !listed.getD i false := List.mem_filter.2 ⟨List.mem_range.2 hlt, by
        simp [show i < listed.size by omega] at h0 ⊢; exact h0⟩
      have := List.length_pos_of_mem this
      omega
    refine ⟨hnil, ?_⟩
    rw [hall listed hsz hnil, ← hfin] at hr
    exact hQ _ _ _ hr
  | succ fuel ih =>
    intro listed hsz hcl hcount G w a hr
    refine ⟨fun hnil => ?_, fun i hi => ?_⟩
    · rw [hall listed hsz hnil, ← hfin] at hr
      exact hQ _ _ _ hr
    · obtain ⟨hun, o, ho, hpre⟩ := mem_ready.1 hi
      have hilt := (Array.getElem?_eq_some_iff.1 ho).1
      have hun' : listed.getD i false = false := by
        simp [show i < listed.size by omega] at hun ⊢; exact hun
      have hanc : ∀ q ∈ (ancs ops.toList).getD i [], listed.getD q false = true := closed_anc (fun i => listed.getD i false) hlow hcl i o ho hpre
      have hE := heff i o (by simpa using ho)
      -- who writes what this one looks at
      have hwr : ∀ j, j < es.length → j ≠ i → ¬ Free (es.getD (min i j) default) (es.getD (max i j) default) → (listed.getD j false = true ↔ j < i) := fun j hj hne hnf => by
        rcases Nat.lt_or_gt_of_ne hne with hlt | hgt
        · have hm : min i j = j ∧ max i j = i := by omega
          rw [hm.1, hm.2] at hnf
          rcases hfree j i hlt hilt with h1 | h1
          · exact ⟨fun _ => hlt, fun _ => hanc j h1⟩
          · exact absurd h1 hnf
        · have hm : min i j = i ∧ max i j = j := by omega
          rw [hm.1, hm.2] at hnf
          rcases hfree i j hgt (by omega) with h1 | h1
          · refine ⟨fun hd => ?_, fun h => by omega⟩
            have hjo : ops[j]? = some ops[j] := by simp [show j < ops.size by omega]
            have := closed_anc (fun i => listed.getD i false) hlow hcl j ops[j] hjo (fun e he hb => hcl j _ hjo hd e he hb) i h1
            rw [hun'] at this; cases this
          · exact absurd h1 hnf
      have key := effA_ok (P := P) (B := B) hTT hPT hE (τ := apps (fun i => es.getD i default) ((List.range es.length).filter fun i => listed.getD i false) σ) (by rw [apps_n, apps_n]) (fun t ht => by
          rw [apps_slot _ t _ σ σ rfl, apps_slot _ t (List.range i) σ σ rfl, filter_range_eq (i := i) (by omega) (fun j hj hw => ?_)]
          simp only [decide_eq_true_eq] at hw
          by_cases hji : j = i
          · subst hji; rw [hun']; simp
          · refine hwr j hj hji fun hf => ?_
            rcases Nat.lt_or_gt_of_ne hji with hlt | hgt
            · have hm : min i j = j ∧ max i j = i := by omega
              rw [hm.1, hm.2] at hf
              exact (hf.d1 t hw).1 ht
            · have hm : min i j = i ∧ max i j = j := by omega
              rw [hm.1, hm.2] at hf
              exact hf.d2 t hw ht) (fun k hk => by
          rw [apps_obj _ k _ σ σ rfl, apps_obj _ k (List.range i) σ σ rfl, filter_range_eq (i := i) (by omega) (fun j hj hw => ?_)]
          simp only [List.contains_iff_mem] at hw
          by_cases hji : j = i
          · subst hji; rw [hun']; simp
          · refine hwr j hj hji fun hf => ?_
            rcases Nat.lt_or_gt_of_ne hji with hlt | hgt
            · have hm : min i j = j ∧ max i j = i := by omega
              rw [hm.1, hm.2] at hf
              exact hf.k1 k hw hk
            · have hm : min i j = i ∧ max i j = j := by omega
              rw [hm.1, hm.2] at hf
              exact hf.k2 k hw hk) (fun hidf => by
          rw [apps_id, apps_id]
          have : ∀ j, j < es.length → j ≠ i → (id + i) ∈ (es.getD j default).keys → (listed.getD j false = true ↔ j < i) := fun j hj hji hw => hwr j hj hji fun hf => by
            rcases Nat.lt_or_gt_of_ne hji with hlt | hgt
            · have hm : min i j = j ∧ max i j = i := by omega
              rw [hm.1, hm.2] at hf
              exact hf.k1 _ hw hidf
            · have hm : min i j = i ∧ max i j = j := by omega
              rw [hm.1, hm.2] at hf
              exact hf.k2 _ hw hidf
          constructor
          · rintro (h1 | ⟨j, hj, hw⟩)
            · exact .inl h1
            · simp only [List.mem_filter, List.mem_range] at hj
              have hji : j ≠ i := fun e => by rw [e, hun'] at hj; simp at hj
              exact .inr ⟨j, List.mem_range.2 ((this j hj.1 hji hw).1 hj.2), hw⟩
          · rintro (h1 | ⟨j, hj, hw⟩)
            · exact .inl h1
            · simp only [List.mem_range] at hj
              exact .inr ⟨j, List.mem_filter.2 ⟨List.mem_range.2 (by omega), (this j (by omega) (by omega) hw).2 hj⟩, hw⟩) (fun p hp => by
          rw [apps_shp _ p.1 _ σ σ rfl, apps_shp _ p.1 (List.range i) σ σ rfl, filter_range_eq (i := i) (by omega) (fun j hj hw => ?_)]
          simp only [List.contains_iff_mem] at hw
          by_cases hji : j = i
          · subst hji; rw [hun']; simp
          · refine hwr j hj hji fun hf => ?_
            rcases Nat.lt_or_gt_of_ne hji with hlt | hgt
            · have hm : min i j = j ∧ max i j = i := by omega
              rw [hm.1, hm.2] at hf
              rcases hf.k3 with h1 | ⟨_, _, h1, _⟩
              · exact h1 _ (keys_u hw) (keys_pt hp)
              · rw [h1] at hw; cases hw
            · have hm : min i j = i ∧ max i j = j := by omega
              rw [hm.1, hm.2] at hf
              rcases hf.k3 with h1 | ⟨_, _, _, h1, _⟩
              · exact h1 _ (keys_pt hp) (keys_u hw)
              · rw [h1] at hw; cases hw) hr (wpAnyIn (FR B.ro) 0 P .any ops Q fuel (listed.setIfInBounds i true)) Q (fun G' w' a' hr' => ?_)
      · unfold wpOpIn
        rw [ho]
        exact key
      · have hset : ∀ j, (listed.setIfInBounds i true).getD j false = (listed.getD j false || j == i) := fun j => by
          by_cases hji : i = j
          · subst hji; simp [show i < listed.size by omega]
          · rw [getD_set_ne false hji]
            have : (j == i) = false := by simp; omega
            simp [this]
        refine ih (listed.setIfInBounds i true) (by simpa using hsz) (fun j oj hoj hdj e he hb => ?_) ?_ (StEq.R ⟨?_, fun t => ?_, fun k => ?_, fun k => ?_⟩ hr')
        · replace hdj : (listed.setIfInBounds i true).getD j false = true := hdj
          show (listed.setIfInBounds i true).getD e.on false = true
          rw [hset] at hdj ⊢
          simp only [Bool.or_eq_true, beq_iff_eq] at hdj ⊢
          rcases hdj with hdj | rfl
          · exact .inl (hcl j oj hoj hdj e he hb)
          · rw [ho] at hoj; cases hoj
            exact .inl (hpre e he hb)
        · have hlt2 : ((List.range ops.size).filter fun j => !(listed.setIfInBounds i true).getD j false).length < ((List.range ops.size).filter fun j => !listed.getD j false).length := by
            have hsub : ((List.range ops.size).filter fun j => !(listed.setIfInBounds i true).getD j false) = (((List.range ops.size).filter fun j => !listed.getD j false).filter fun j => decide (j ≠ i)) := by
              rw [List.filter_filter]
              apply List.filter_congr
              intro j hj
              rw [hset]
              by_cases e : j = i
              · simp [e]
              · simp [e]
            rw [hsub]
            apply List.length_filter_lt_length_iff_exists.2
            exact ⟨i, List.mem_filter.2 ⟨List.mem_range.2 hilt, by rw [hun']; rfl⟩, by simp⟩
          omega
        · rw [app_n, apps_n, apps_n]
        · -- slots
          rw [show (fun j => (listed.setIfInBounds i true).getD j false) = (fun j => listed.getD j false || j == i) from funext hset]
          rw [app_slot, apps_slot _ t ((List.range es.length).filter fun j => listed.getD j false || j == i) σ σ rfl]
          by_cases hw : (es.getD i default).dst = some t
          · rw [if_pos hw, filter_range_snoc (W := fun j => decide ((es.getD j default).dst = some t)) (D := fun j => listed.getD j false) (by omega) (by simpa using hw) (fun j hj hji hwj hdj => ?_), hun']
            · simp only [Bool.false_eq_true, if_false, apps, List.foldl_append, List.foldl_cons, List.foldl_nil]
              rw [app_slot, if_pos hw]
            · simp only [decide_eq_true_eq] at hwj
              refine (hwr j hj hji fun hf => ?_).1 hdj
              rcases Nat.lt_or_gt_of_ne hji with hlt | hgt
              · have hm : min i j = j ∧ max i j = i := by omega
                rw [hm.1, hm.2] at hf
                exact (hf.d1 t hwj).2 hw
              · have hm : min i j = i ∧ max i j = j := by omega
                rw [hm.1, hm.2] at hf
                exact (hf.d1 t hw).2 hwj
          · rw [if_neg hw, apps_slot _ t _ σ σ rfl]
            congr 2
            simp only [List.filter_filter]
            congr 1
            apply List.filter_congr
            intro j _
            by_cases hji : j = i
            · subst hji; simp only [decide_eq_false hw, Bool.false_and]
            · have : (j == i) = false := by simp [hji]
              simp [this]
        · -- objects
          rw [show (fun j => (listed.setIfInBounds i true).getD j false) = (fun j => listed.getD j false || j == i) from funext hset]
          by_cases hw : k ∈ (es.getD i default).keys
          · obtain ⟨A, C, hA, hC, hcm⟩ := filter_range_ins (n := es.length) (i := i) (W := fun j => (es.getD j default).keys.contains k) (D := fun j => listed.getD j false) (by omega) (by simpa using hw) hun'
            rw [apps_obj _ k ((List.range es.length).filter fun j => listed.getD j false || j == i) σ σ rfl, hC]
            rw [app_obj_congr (es.getD i default) (apps_obj (fun i => es.getD i default) k ((List.range es.length).filter fun j => listed.getD j false) σ σ rfl), hA]
            have e1 : apps (fun i => es.getD i default) (A ++ C) σ = apps (fun i => es.getD i default) C (apps (fun i => es.getD i default) A σ) := by simp only [apps, List.foldl_append]
            have e2 : apps (fun i => es.getD i default) (A ++ i :: C) σ = apps (fun i => es.getD i default) C ((es.getD i default).app (apps (fun i => es.getD i default) A σ)) := by simp only [apps, List.foldl_append, List.foldl_cons]
            rw [e1, e2]
            refine apps_comm (fun i => es.getD i default) i k C _ fun c hc => ?_
            obtain ⟨c1, c2, c3, c4⟩ := hcm c hc
            simp only [List.contains_iff_mem] at c4
            have hnanc : i ∉ (ancs ops.toList).getD c [] := fun h1 => by
              have hco : ops[c]? = some ops[c] := by simp [show c < ops.size by omega]
              have := closed_anc (fun i => listed.getD i false) hlow hcl c ops[c] hco (fun e he hb => hcl c _ hco c3 e he hb) i h1
              rw [hun'] at this; cases this
            rcases hfree i c c1 (by omega) with h1 | h1
            · exact absurd h1 hnanc
            · rcases h1.k3 with h2 | ⟨p, q, h3⟩
              · exact absurd c4 (h2 k hw)
              · exact ⟨p, q, h3⟩
          · rw [app_obj_out hw, apps_obj _ k _ σ σ rfl, apps_obj _ k ((List.range es.length).filter fun j => listed.getD j false || j == i) σ σ rfl]
            congr 2
            simp only [List.filter_filter]
            congr 1
            apply List.filter_congr
            intro j _
            by_cases hji : j = i
            · subst hji
              have hwf : (es.getD j default).keys.contains k = false := by
                cases hc : (es.getD j default).keys.contains k
                · rfl
                · exact absurd (List.contains_iff_mem.1 hc) hw
              simp only [hwf, Bool.false_and]
            · have : (j == i) = false := by simp [hji]
              simp [this]
        · -- names
          rw [app_ids, updI_mem, apps_id, apps_id]
          simp only [List.mem_filter, List.mem_range, hset, Bool.or_eq_true, beq_iff_eq]
          constructor
          · rintro (h1 | h1 | ⟨j, hj, hw⟩)
            · exact .inr ⟨i, ⟨by omega, .inr rfl⟩, h1⟩
            · exact .inl h1
            · exact .inr ⟨j, ⟨hj.1, .inl hj.2⟩, hw⟩
          · rintro (h1 | ⟨j, ⟨hj1, hj2⟩, hw⟩)
            · exact .inr (.inl h1)
            · rcases hj2 with hj2 | rfl
              · exact .inr (.inr ⟨j, ⟨hj1, hj2⟩, hw⟩)
              · exact .inl hw

theorem R.drew {G : Gh} {σ : AS} {w : World} {a : Act} (hr : R B G σ w a) : R B G σ { w with drawn := w.drawn + 1 } a :=
  ⟨hr.n, hr.slot, hr.defers, ⟨hr.heap.os, hr.heap.tape, hr.heap.output, hr.heap.size, hr.heap.old, fun k o hk => (hr.heap.obj k o hk).mono (Gh.le.refl G) fun _ _ _ _ _ => rfl, hr.heap.own, hr.heap.inj, hr.heap.st, hr.heap.sep, hr.heap.fresh, hr.heap.keep, hr.heap.fix, hr.heap.pin, hr.heap.base⟩, hr.ids⟩
/-- A region that leaves its order open. -/
theorem s_draw (hP : P.follows .mixedOrders = true) (hTT : TTok P TT) (hPT : PTok P PT) {id : Nat} {σ σ' : AS} {Q : Exit → AS → Prop} (h : runE TT PT ops ops.toList (nxt σ) σ = some (σ', es)) (hok : ordOk ops.toList es = true) (k : Q .normal σ') : SP P B (.region id ops true) σ Q :=
  fun D G w a hr => wpIn_region_any hP (any_ok (B := B.d D) hTT hPT h hok (fun G' w' a' hr' => ⟨D, G', σ', hr', k⟩) ops.size _ (by simp) (fun j o ho hd => by
    have : (Array.replicate ops.size false).getD j false = false := by
      simp only [Array.getD_eq_getD_getElem?, Array.getElem?_replicate]
      split <;> rfl
    replace hd : (Array.replicate ops.size false).getD j false = true := hd
    rw [this] at hd; cases hd) (by
      refine Nat.le_trans (List.length_filter_le _ _) (by simp)) (G := G) (by
      have : ((List.range es.length).filter fun i => (Array.replicate ops.size false).getD i false) = [] := List.filter_eq_nil_iff.2 fun i _ => by
        simp only [Array.getD_eq_getD_getElem?, Array.getElem?_replicate]
        split <;> simp
      rw [this]
      exact hr.drew))
end sound
end Go.Proofs.Ytkollnaojpppcaa
