/- Sorting slices of rows that are objects; no condition. -/
import Derived.Test.YtafikekndefjcaaDoorObC
namespace Go.Proofs.YtafikekndefjcaaDoor
set_option linter.unusedVariables false
set_option linter.unusedSimpArgs false
set_option linter.unusedSectionVars false
open Go.RowKit Go.Shelf Go.Sort
set_option maxRecDepth 100000
theorem perm_ix {α : Type} {l' l : List α} (h : l'.Perm l) : ∃ π : Nat → Nat, (∀ i, i < l'.length → π i < l.length ∧ l'[i]? = l[π i]?) ∧ ∀ i j, i < l'.length → j < l'.length → π i = π j → i = j := by
  induction h with
  | nil => exact ⟨fun i => i, fun i h => by simp at h, fun i j h => by simp at h⟩
  | @cons x l1 l2 h ih =>
    obtain ⟨π, h1, h2⟩ := ih
    refine ⟨fun i => if i = 0 then 0 else π (i - 1) + 1, fun i hi => ?_, fun i j hi hj e => ?_⟩
    · cases i with
      | zero => simp
      | succ i =>
        obtain ⟨g1, g2⟩ := h1 i (by simpa using hi)
        simp only [Nat.add_one_ne_zero, if_false, Nat.add_sub_cancel, List.length_cons, List.getElem?_cons_succ]
        exact ⟨by omega, g2⟩
    · cases i with
      | zero => cases j with
        | zero => rfl
        | succ j => simp at e
      | succ i => cases j with
        | zero => simp at e
        | succ j =>
          simp only [Nat.add_one_ne_zero, if_false, Nat.add_sub_cancel, Nat.add_right_cancel_iff] at e
          rw [h2 i j (by simpa using hi) (by simpa using hj) e]
  | @swap x y l =>
    refine ⟨fun i => if i = 0 then 1 else if i = 1 then 0 else i, fun i hi => ?_, fun i j hi hj e => ?_⟩
    · match i with
      | 0 => simp
      | 1 => simp
      | i + 2 => simpa using hi
    · match i, j with
      | 0, 0 => rfl
      | 0, 1 => simp at e
      | 0, j + 2 => simp at e
      | 1, 0 => simp at e
      | 1, 1 => rfl
      | 1, j + 2 => simp at e
      | i + 2, 0 => simp at e
      | i + 2, 1 => simp at e
      | i + 2, j + 2 => simpa using e
  | @trans l1 l2 l3 ha hb iha ihb =>
    obtain ⟨π, h1, h2⟩ := iha
    obtain ⟨τ, k1, k2⟩ := ihb
    refine ⟨fun i => τ (π i), fun i hi => ?_, fun i j hi hj e => ?_⟩
    · obtain ⟨g1, g2⟩ := h1 i hi
      obtain ⟨g3, g4⟩ := k1 _ g1
      exact ⟨g3, g2.trans g4⟩
    · exact h2 i j hi hj (k2 _ _ (h1 i hi).1 (h1 j hj).1 e)
theorem sortRows_cp {S : Nat → Nat → Option Value} {w : World} (hS : StOk S w) {b base cap : Nat} (hsep : ∀ p, S b p = none) (hb : b < w.heap.size) (d : Array (RowV S)) (hd : Holds encR w b base d) (hsz : d.size < 4611686018427387904) :
    Calls Tryd.prog 49 #[.slice (some ⟨b, base, none⟩) d.size cap, .func (.func 50) #[] #[]] w fun e w' =>
      e = .returned (.tuple #[]) ∧ ∃ (d' : Array (RowV S)) (q : Nat) (os : Array Obj), d'.toList.Perm d.toList ∧ d'.toList.map (fun x => x.1.2) = sortRows (d.toList.map fun x => x.1.2) ∧ w' = sortWorld encR w b base q d' os := by
  have eg : ∀ args w, (callFunc 50 args).run Tryd.prog w = .ok (.enter 50 args) w := enters_fn Tryd.func50 (by kernel_rfl) rfl
  have hcmp : CmpReads Tryd.prog 50 #[] (encR (S := S)) cmpR b base d.size w := fun m os dk _ x y => by
    have hst : StOk S (sortWorld encR w b base m dk os) := ⟨fun b' o u h => by
      have h1 := hS.1 b' o u h
      have hne : b' ≠ b := fun e => by subst e; rw [hsep] at h; cases h
      have hlt := World.block_lt_of_cell? _ _ h1
      rw [← h1]; unfold World.cell?; simp only [sortWorld_block hlt hne], hS.2⟩
    exact normalFn_c (ints_of hst x.2.1 (toInts_ints _) x.2.2.2.1) (ints_of hst y.2.1 (toInts_ints _) y.2.2.2.1)
  have hT := Any.slices_SortFunc sortR (encR (S := S)) (fun x => x.2.2.1) cmpR swoR 50 #[] b base cap d w eg (CmpReads.lays hcmp) hd hb hsz
  change Calls Tryd.prog 49 _ _ _ at hT
  refine hT.mono fun e w' ⟨he, d', q, os, hp, hs, hw⟩ => ⟨he, d', q, os, ?_, ?_, hw⟩
  · obtain ⟨hsz', _, hperm⟩ := hp
    have e1 : d'.extract 0 d.size = d' := by rw [← hsz']; exact Array.extract_size
    rw [e1, Array.extract_size] at hperm
    exact hperm
  obtain ⟨hsz', _, hperm⟩ := hp
  have e1 : d'.extract 0 d.size = d' := by rw [← hsz']; exact Array.extract_size
  rw [e1, Array.extract_size] at hperm
  have hlits : ∀ c ∈ d.toList.map (fun x : RowV S => x.1.2), Lits c := fun c hc => by
    obtain ⟨x, _, rfl⟩ := List.mem_map.1 hc; exact x.2.2.2.2
  have hperm2 : (d'.toList.map fun x : RowV S => x.1.2).Perm (sortRows (d.toList.map fun x => x.1.2)) := (hperm.map _).trans (sortRows_perm _).symm
  have hl1 : ∀ c ∈ d'.toList.map (fun x : RowV S => x.1.2), Lits c := fun c hc => by
    obtain ⟨x, _, rfl⟩ := List.mem_map.1 hc; exact x.2.2.2.2
  refine List.Perm.eq_of_pairwise (le := fun x y => clLe x y = true) ?_ ?_ ?_ hperm2
  · intro a c ha hc h1 h2
    exact clLe_anti (hl1 a ha) (hlits c ((sortRows_perm _).mem_iff.1 hc)) h1 h2
  · rw [List.pairwise_map, List.pairwise_iff_getElem]
    intro i j hi hj hij
    have := hs i j (by omega) hij (by simp at hj; omega)
    have hi' : i < d'.size := by simpa using hi
    have hj' : j < d'.size := by simpa using hj
    rw [getElem!_pos _ i hi', getElem!_pos _ j hj'] at this
    show (!decide (cmpC _ _ < 0)) = true
    have h2 : decide (cmpC (d'.toList[j]).1.2 (d'.toList[i]).1.2 < 0) = false := this
    rw [h2]; rfl
  · unfold sortRows
    have : List.Pairwise (fun a b => clLe a b = true) ((d.toList.map fun x : RowV S => x.1.2).mergeSort clLe) := by
      refine pairwise_mergeSort_of hlits
    exact this
def refsP (b : Nat) (M : List (List Int)) (π : Nat → Nat) : List (List AV) := (List.range M.length).map fun i => [.ref (b + π i) 0 (M.getD i []).length]
theorem refsP_get {b : Nat} {M : List (List Int)} {π : Nat → Nat} {i : Nat} (h : i < M.length) : (refsP b M π).getD i [] = [.ref (b + π i) 0 (M.getD i []).length] := by simp [refsP, List.getD, h]
def SortedBy (M : List (List Int)) (π : Nat → Nat) : Prop := (∀ i, i < M.length → π i < M.length ∧ (sortRows M).getD i [] = M.getD (π i) []) ∧ ∀ i j, i < M.length → j < M.length → π i = π j → i = j
theorem spl_sortI {B : Base} {σ : AS} {Q : Exit → AS → Prop} {ops : Array Oper} {o : Oper} {r : List Oper} {x : Operand} {ts : Array TypeId} {k b : Nat} {t : TypeId} {M : List (List Int)} (ho : o.op = .call { callee := .value (.func 49), args := #[x, .func 50], argTypes := ts })
    (hd : dstOk σ o = true) (hwt : wantA σ ops o = some true) (hx : σ.ev x = some (.ref k 0 M.length)) (hob : lk σ.objs k = some ⟨t, 1, refsI b M⟩) (hkb : k < b) (hfam : ∀ j, j < M.length → lk σ.objs (b + j) = some (obI (M.getD j []))) (hL : okRows M = true) (hl : ∀ c ∈ M, Lits c)
    (kk : ∀ π, SortedBy M π → SPL Tryd.prog B ops r (AS.put (σ.upd [(k, some ⟨t, 1, refsP b (sortRows M) π⟩)]) o.dst (.v (.tuple #[]))) Q) : SPL Tryd.prog B ops (o :: r) σ Q := by
  have hlen := okRows_len hL
  have hsl : (sortRows M).length = M.length := (sortRows_perm M).length_eq
  suffices hc : ∀ D G w a, R (B.d D) G σ w a → Calls Tryd.prog 49 #[a.eval x, .func (.func 50) #[] #[]] w fun e w' => e = .returned (.tuple #[]) ∧ ∃ π, SortedBy M π ∧ R (B.d D) G (σ.upd [(k, some ⟨t, 1, refsP b (sortRows M) π⟩)]) w' a by
    intro D G w a hr
    unfold wpListIn
    rw [if_pos (wantA_ok hr hwt)]
    refine ⟨fun _ _ => trivial, ?_⟩
    have harg : (#[x, Operand.func 50] : Array Operand).map a.eval = #[a.eval x, .func (.func 50) #[] #[]] := by simp [Act.eval]
    rw [show (FR B.ro).round = B.ro from rfl, Oper.semAt_eq B.ro a.eval o (fun c hc => by rw [ho] at hc; cases hc), run_call_args ho (by kernel_rfl), harg, Oper.uponIn_enter]
    refine ⟨fun e => (by cases e), FR_calls.2 ((hc D G w a hr).mono fun e w' hq => ?_)⟩
    obtain ⟨rfl, π, h1, h2⟩ := hq
    exact kk π h1 D G w' _ (h2.put (fun d hdd => R.dst (G := G) (w := w) (a := a) (σ := σ) hd d hdd) (.v _))
  intro D G w a hr
  have hv := hr.ev hx
  generalize a.eval x = v at hv
  cases hv with
  | ref _ _ _ blk base cap sz ad hloc hle hm hb h0 =>
    obtain ⟨blk', base', cap', g1, g2, g3, g4, g5⟩ := (hr.heap.obj k _ hob).cells Nat.one_pos
    rw [hloc] at g1
    cases g1
    by_cases hne : M.length = 0
    · obtain rfl : M = [] := List.eq_nil_of_length_eq_zero hne
      have hS := AnyF.slices_SortFunc_none (P := Tryd.prog) (ρ := sortR_ren) { sortR with } ad (cap - 0) (.func (.func 50) #[] #[]) w
      change Calls Tryd.prog 49 _ _ _ at hS
      refine Calls.mono hS fun e w' ⟨he, hw⟩ => ⟨he, fun i => i, ⟨fun i hi => by simp at hi, fun i j hi => by simp at hi⟩, ?_⟩
      subst hw
      refine StEq.R (σ := σ) (τ := σ.upd [(k, some (⟨t, 1, refsP b (sortRows []) fun i => i⟩ : AObj))]) ⟨rfl, fun _ => rfl, fun q => ?_, fun q => ?_⟩ hr
      · simp only [AS.upd, updO, lk_st]
        split
        · rename_i e; subst e; rw [hob]; simp [sortRows, refsP, refsI]
        · rfl
      · rw [show (σ.upd [(k, some (⟨t, 1, refsP b (sortRows []) fun i => i⟩ : AObj))]).ids = updI σ.ids [(k, some ⟨t, 1, refsP b (sortRows []) fun i => i⟩)] from rfl, updI_mem]
        constructor
        · exact .inr
        · rintro (h | h)
          · simp at h; subst h; exact hr.ids _ (by rw [hloc]; simp)
          · exact h
    · obtain ⟨b0, rfl, rfl⟩ := hb (by omega)
      obtain ⟨vs, g6, g7, g8⟩ := g5
      have hblk := (Array.getElem?_eq_some_iff.1 g6).1
      -- all cells outside the array stay
      let S : Nat → Nat → Option Value := fun b' p => if b' = b0 then none else w.cell? ⟨b', p, none⟩
      have hSG : ∀ b' o u, G.S b' o = some u → S b' o = some u := fun b' o u h => by
        show (if b' = b0 then none else _) = some u
        rw [if_neg (fun e => by subst e; rw [hr.heap.sep k _ hob _ _ hloc] at h; cases h)]
        exact hr.heap.st b' o u h
      have hS : StOk S w := ⟨fun b' o u h => by
        replace h : (if b' = b0 then none else w.cell? ⟨b', o, none⟩) = some u := h
        split at h
        · cases h
        · exact h, fun g l hg => ⟨fun j hj => hSG _ _ _ ((hr.heap.glob g l hg).1 j hj), (hr.heap.glob g l hg).2⟩⟩
      have hcell : ∀ i, i < M.length → (vs.getD (base + i) undef).oneCell' = true ∧ Rv G (.ref (b + i) 0 (M.getD i []).length) (vs.getD (base + i) undef) := fun i hi => by
        obtain ⟨h1, h2⟩ := g8 i 0 (by rw [refsI_len]; exact hi) (by show 0 < 1; omega)
        have e1 : base + (i * (⟨t, 1, refsI b M⟩ : AObj).sz + 0) = base + i := by show base + (i * 1 + 0) = _; omega
        rw [e1] at h1 h2
        rw [show (⟨t, 1, refsI b M⟩ : AObj).xs.getD i [] = [.ref (b + i) 0 (M.getD i []).length] from refsI_get hi] at h2
        exact ⟨h1, h2⟩
      have hrow : ∀ i, i < M.length → Rv (G0 S) (aInts (M.getD i [])) (vs.getD (base + i) undef) := fun i hi => by
        have hsh : σ.shut1 (fun q => decide (q ≠ k)) (.ref (b + i) 0 (M.getD i []).length) = some (aInts (M.getD i [])) := by
          simp only [AS.shut1, hfam i hi, obI]
          have e1 : (((M.getD i []).map fun x => [AV.v (.int .i64 x)]).drop 0).take (M.getD i []).length = (M.getD i []).map fun x => [AV.v (.int .i64 x)] := by
            rw [List.drop_zero]; exact take_map_len _ _
          rw [e1, if_pos ⟨by rw [decide_eq_true_eq]; omega, Nat.one_pos, by rw [List.length_map]; omega, ids_ints _⟩]
          rfl
        refine shut1_ok hr (T := S) hSG (fun q ob b' x p u hD hq hlq hc => ?_) (L := fun _ => none) (hcell i hi).2 hsh
        show (if b' = b0 then none else _) = some u
        rw [if_neg (fun e => by
          subst e
          have := hr.heap.inj q k ob _ hq hob _ _ _ hlq hloc
          simp [this] at hD)]
        exact hc
      let d : Array (RowV S) := (List.ofFn fun i : Fin M.length => (⟨(vs.getD (base + i.1) undef, M.getD i.1 []), hrow i.1 i.2, (hcell i.1 i.2).1, okRows_at hL i.1, by
        have : M.getD i.1 [] = M[i.1] := by simp [i.2]
        rw [this]; exact hl _ (List.getElem_mem _)⟩ : RowV S)).toArray
      have hdsz : d.size = M.length := by simp [d]
      have hdget : ∀ j, j < d.size → (d[j]!).1 = (vs.getD (base + j) undef, M.getD j []) := fun j hj => by
        have hj2 : j < M.length := by omega
        rw [getElem!_pos d j hj]; simp [d, List.getD, hj2]
      have hdL : d.toList.map (fun x => x.1.2) = M := by
        apply List.ext_getElem
        · simp [d]
        · intro i h1 h2
          simp [d, List.getD, h2]
      have hH : Holds encR w b0 (base + 0 * 1) d := fun j hj => by
        have hj' : base + j < vs.size := by
          have : j < cap := by omega
          have : base + cap * 1 ≤ vs.size := g7
          omega
        refine ⟨?_, by simp [World.frozen?, g6]⟩
        show w.cell? ⟨b0, base + 0 * 1 + j, none⟩ = some (d[j]!).1.1
        rw [hdget j hj, show base + 0 * 1 + j = base + j by omega]
        simp [World.cell?, g6, hj']
      have hS2 := sortRows_cp hS (cap := cap - 0) (fun p => by show (if b0 = b0 then none else _) = none; rw [if_pos rfl]) hblk d hH (by omega)
      rw [hdsz] at hS2
      refine Calls.mono hS2 fun e w' ⟨he, d', q, os, hs1, hs2, hw⟩ => ?_
      rw [hdL] at hs2
      have hd'sz : d'.size = M.length := by rw [← hdsz, ← Array.length_toList, ← Array.length_toList]; exact hs1.length_eq
      obtain ⟨π, p1, p2⟩ := perm_ix hs1
      have hlen' : d'.toList.length = M.length := by simpa using hd'sz
      have hlen2 : d.toList.length = M.length := by simpa using hdsz
      have hpi : ∀ i, i < M.length → π i < M.length ∧ (d'[i]!).1 = (vs.getD (base + π i) undef, M.getD (π i) []) := fun i hi => by
        obtain ⟨h1, h2⟩ := p1 i (by omega)
        rw [hlen2] at h1
        refine ⟨h1, ?_⟩
        rw [← hdget (π i) (by omega), getElem!_pos d' i (by omega), getElem!_pos d (π i) (by omega)]
        rw [Array.getElem?_toList, Array.getElem?_toList, Array.getElem?_eq_getElem (by omega), Array.getElem?_eq_getElem (by omega)] at h2
        rw [Option.some.inj h2]
      have hso : ∀ i, i < M.length → (sortRows M).getD i [] = M.getD (π i) [] := fun i hi => by
        rw [← hs2]
        have h2 := (hpi i hi).2
        rw [getElem!_pos d' i (by omega)] at h2
        have : (d'.toList.map fun x => x.1.2).getD i [] = (d'[i]'(by omega)).1.2 := by simp [List.getD, hd'sz, hi]
        rw [this, h2]
      refine ⟨he, π, ⟨fun i hi => ⟨(hpi i hi).1, hso i hi⟩, fun i j hi hj => p2 i j (by omega) (by omega)⟩, ?_⟩
      have hown : w'.heap[b0]? = some (.cells (putCells encR (base + 0 * 1) d' vs) t (0, 0)) := by rw [hw]; exact sortWorld_own g6
      have hrl : (refsP b (sortRows M) π).length = M.length := by simp [refsP, hsl]
      refine ⟨hr.n, hr.slot, hr.defers, ?_, fun q hq => ?_⟩
      · refine hr.heap.step (by rw [hw]; rfl) (by rw [hw]; rfl) (by rw [hw]; rfl) (by rw [hw]; show _ ≤ ((putRow encR (Sort.ahead w q) b0 (base + 0 * 1) d').heap ++ os).size; simp [putRow, mapBlock, Sort.ahead]) (Gh.le.refl G) rfl b0 k (fun b' hne' hlt => by rw [hw]; exact sortWorld_block hlt hne') (.inr ⟨k, _, _, hob, hloc⟩) (fun q' ob' hq' => ?_)
        simp only [AS.upd, updO, lk_st] at hq'
        split at hq'
        · rename_i e; subst e; cases hq'
          refine .inl ⟨rfl, .of Nat.one_pos ⟨some b0, base, cap, hloc, by rw [hrl]; omega, g3, fun i hi => ?_, _, hown, ?_, fun i j hi hj => ?_⟩, fun b' x hl' => ?_⟩
          · rw [hrl] at hi
            rw [refsP_get (by omega)]; rfl
          · simpa [putCells] using g7
          · rw [hrl] at hi
            have hj0 : j = 0 := by
              have : j < 1 := hj
              omega
            subst hj0
            have hi' : i < d'.size := by omega
            have e1 : base + (i * (⟨t, 1, refsP b (sortRows M) π⟩ : AObj).sz + 0) = base + i := by show base + (i * 1 + 0) = _; omega
            rw [e1]
            have hvi : base + i < vs.size := by
              have : base + cap * 1 ≤ vs.size := g7
              omega
            have e2 : (putCells encR (base + 0 * 1) d' vs).getD (base + i) undef = (d'[i]!).1.1 := by
              simp only [putCells, Nat.zero_mul, Nat.add_zero, Array.getD_eq_getD_getElem?, Array.getElem?_mapIdx]
              rw [Array.getElem?_eq_getElem hvi]
              simp only [Option.map_some, Option.getD_some]
              rw [if_pos (by omega), show base + i - base = i by omega]
              rfl
            rw [e2, (hpi i hi).2]
            show _ ∧ Rv G (((refsP b (sortRows M) π).getD i []).getD 0 .any) _
            rw [refsP_get (by omega), hso i hi]
            exact hcell (π i) (hpi i hi).1
          · rw [hloc] at hl'; cases hl'; rfl
        · rename_i e
          refine .inr ⟨Ne.symm e, hq', fun b' x hl' e2 => ?_⟩
          subst e2
          exact e (hr.heap.inj _ _ _ _ hob hq' _ _ _ hloc hl')
      · rw [show (σ.upd [(k, some (⟨t, 1, refsP b (sortRows M) π⟩ : AObj))]).ids = updI σ.ids [(k, some ⟨t, 1, refsP b (sortRows M) π⟩)] from rfl, updI_mem]
        exact .inr (hr.ids q hq)
end Go.Proofs.YtafikekndefjcaaDoor
