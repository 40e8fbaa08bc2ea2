/- An abstract machine for the text, part thirteen: code; plain lemmas over any program; no condition. -/
import Derived.Test.YtkollnaojpppcaaAm12
import Derived.Sort.LoopGhostIn
import Derived.LoopN
import Derived.Scope
import Derived.TacticsIn
import Derived.OrdersIn
import Derived.RangeFuncIn
import Derived.RangeFuncLeaves
import Derived.RangeFuncRecord
namespace Go.Proofs.Ytkollnaojpppcaa
open Go.RowKit

/-- Is the operation wanted? -/
def wantA (σ : AS) (ops : Array Oper) (o : Oper) : Option Bool :=
  match o.guard with
  | none => some true
  | some (j, want) => match (ops[j]?).bind (·.dst) with
    | some t => match lk σ.slots t with
      | some (.v (.bool b)) => some (b == want)
      | some (.v _) => some false
      | _ => none
    | none => none
theorem wantA_ok {B : Base} {G : Gh} {σ : AS} {w : World} {a : Act} (hr : R B G σ w a) {ops : Array Oper} {o : Oper} {b : Bool} (h : wantA σ ops o = some b) : Region.wanted o (yielded ops a.tmps) = b := by
  unfold wantA at h
  unfold Region.wanted
  split at h
  · rename_i hg; simp only [hg]; cases h; rfl
  · rename_i j want hg
    simp only [hg]
    split at h
    · rename_i t ht
      have key : ∀ x : Value, lk σ.slots t = some (.v x) → yielded ops a.tmps j = (match x with | .bool b => some b | _ => none) := fun x hx => by
        obtain ⟨h1, h2⟩ := hr.slot t _ hx
        have h3 := h2.v_eq
        have hlt : t < a.tmps.size := by rw [hr.n]; exact h1
        have h4 : a.tmps[t]? = some x := by
          have : a.tmps[t] = x := by simpa [Array.getD, hlt] using h3
          simp [hlt, this]
        unfold yielded
        rw [ht, Option.bind_some, h4]
        cases x <;> rfl
      split at h
      · rename_i b' hx
        cases h
        rw [key _ hx]
        cases b' <;> cases want <;> rfl
      · rename_i x hnb hx
        cases h
        rw [key _ hx]
        cases x <;> first | rfl | exact absurd rfl (hnb _)
      · cases h
    · cases h

def dstOk (σ : AS) (o : Oper) : Bool := match o.dst with
  | some d => decide (d < σ.n)
  | none => true
section code
variable (TT : TTab) (PT : PTab)
/-- One operation of a region. -/
def stepA (ops : Array Oper) (id : Nat) (σ : AS) (o : Oper) : Option AS :=
  if dstOk σ o = true then
    match wantA σ ops o with
    | some true => match core TT PT σ id o with
      | some r => some ((σ.upd r.2).put o.dst r.1)
      | none => none
    | some false => some (σ.put o.dst (.v undef))
    | none => none
  else none
/-- The operations of a region, one after the other. -/
def runL (ops : Array Oper) : List Oper → Nat → AS → Option AS
  | [], _, σ => some σ
  | o :: r, id, σ => match stepA TT PT ops id σ o with
    | some σ' => runL ops r (id + 1) σ'
    | none => none
/-- The next name. -/
def nxt (σ : AS) : Nat := σ.ids.foldr (fun k m => max (k + 1) m) 0
end code

/-! ### In a function's frame, or in a round's -/
/-- No fence; the round. -/
def FR (ro : Option Nat) : Fence := { fn := fun _ => True, depth := none, alive := false, round := ro }
theorem FR_none : FR none = Fence.wide := rfl
theorem FR_fn (ro : Option Nat) (f : FuncId) : (FR ro).fn f := trivial
theorem FR_calls {ro : Option Nat} {n : Nat} {P : Program} {f : FuncId} {args : Array Value} {w : World} {R : Ending → World → Prop} : CallsIn (FR ro) n P f args w R ↔ Calls P f args w R := callsIn_wide (n := n)
theorem FR_rows {ro : Option Nat} {n : Nat} {P : Program} {row : String} {args : Array Value} {w : World} {R : Value → World → Prop} (h : Rows P row args w R) : RowsIn (FR ro) n P row args w R :=
  fun c cs _ => let ⟨v, w', r, s⟩ := h c cs; ⟨v, w', r, stepsIn_wide.2 s⟩
theorem wp_FR {ro : Option Nat} {P : Program} {o : Oper} {a : Act} {w : World} {K : Act → World → Prop} {Q : Exit → Act → World → Prop} (hd : ∀ c, o.op ≠ .defer c) (h : o.wp P a w K Q) : o.wpIn (FR ro) 0 P a w K Q := by
  refine ⟨fun f _ => trivial, ?_⟩
  rw [show (FR ro).round = ro from rfl, Oper.semAt_eq ro a.eval o hd]
  unfold Oper.wp at h
  generalize (execOp a.eval o).run P w = r at *
  cases r with
  | ok n w' =>
    cases n <;> simp only [Oper.upon] at h <;> first
      | exact h
      | exact h.elim
      | exact ⟨fun e => (by cases e), FR_calls.2 h⟩
      | exact ⟨fun e => (by cases e), FR_rows h⟩
  | halt x w' => cases x <;> simp only [Oper.upon] at h <;> first
      | exact h
      | exact h.elim

section sound
variable {P : Program} {TT : TTab} {PT : PTab} {B : Base}
/-- The operation, in whatever frame, from this base on. -/
def CoreI (P : Program) (B : Base) (o : Oper) (σ : AS) (r : Res) : Prop :=
  ∀ D G w a, R (B.d D) G σ w a → ∀ (K : Act → World → Prop) (Q : Exit → Act → World → Prop), (∀ G' w' x, G.le G' → R (B.d D) G' (σ.upd r.2) w' a → Rv G' r.1 x → K (a.put o.dst x) w') → o.wpIn (FR B.ro) 0 P a w K Q
theorem CoreOk.inn {o : Oper} {σ : AS} {r : Res} (h : CoreOk P o σ r) (hd : ∀ c, o.op ≠ .defer c) : CoreI P B o σ r := fun D G w a hr K Q hK => wp_FR hd (h (B.d D) G w a hr K Q hK)
theorem core_nd {σ : AS} {id : Nat} {o : Oper} {r : Res} (h : core TT PT σ id o = some r) : ∀ c, o.op ≠ .defer c := fun c hc => by simp [core, hc] at h

theorem R.dst {G : Gh} {σ : AS} {w : World} {a : Act} {o : Oper} (h : dstOk σ o = true) : ∀ d, o.dst = some d → d < σ.n := fun d hd => by
  unfold dstOk at h
  rw [hd] at h
  simpa using h
theorem stepA_ok (hTT : TTok P TT) (hPT : PTok P PT) {ops : Array Oper} {id : Nat} {σ σ' : AS} {o : Oper} (h : stepA TT PT ops id σ o = some σ') {D : List Nat} {G : Gh} {w : World} {a : Act} (hr : R (B.d D) G σ w a) (K : Act → World → Prop) (Q : Exit → Act → World → Prop) (hK : ∀ G' w' a', G.le G' → R (B.d D) G' σ' w' a' → K a' w') :
    if Region.wanted o (yielded ops a.tmps) = true then o.wpIn (FR B.ro) 0 P a w K Q else (∀ f, o.about P w a.eval = some f → (FR B.ro).fn f) ∧ K (a.put o.dst undef) w := by
  unfold stepA at h
  split at h
  · rename_i hd
    split at h
    · rename_i hw
      rw [if_pos (wantA_ok hr hw)]
      split at h
      · rename_i r hc
        cases h
        exact (core_ok hTT hPT hc).inn (core_nd hc) D G w a hr K Q fun G' w' x hle hr' hx => hK G' w' _ hle (hr'.put (fun d hdd => R.dst (G := G) (w := w) (a := a) hd d hdd) hx)
      · cases h
    · rename_i hw
      rw [if_neg (by rw [wantA_ok hr hw]; simp)]
      cases h
      exact ⟨fun _ _ => trivial, hK G w _ (Gh.le.refl G) (hr.put (R.dst (G := G) (w := w) (a := a) hd) (.v _))⟩
    · cases h
  · cases h
theorem runL_ok (hTT : TTok P TT) (hPT : PTok P PT) {ops : Array Oper} : ∀ (l : List Oper) (id : Nat) (σ σ' : AS), runL TT PT ops l id σ = some σ' → ∀ {D : List Nat} {G : Gh} {w : World} {a : Act}, R (B.d D) G σ w a → ∀ (Q : Exit → Act → World → Prop), (∀ G' w' a', G.le G' → R (B.d D) G' σ' w' a' → Q .normal a' w') → wpListIn (FR B.ro) 0 P ops Q l a w
  | [], id, σ, σ', h, D, G, w, a, hr, Q, hQ => by
    simp only [runL, Option.some.injEq] at h
    subst h
    exact hQ G w a (Gh.le.refl G) hr
  | o :: r, id, σ, σ', h, D, G, w, a, hr, Q, hQ => by
    simp only [runL] at h
    split at h
    · rename_i σ1 h1
      have := stepA_ok hTT hPT h1 hr (wpListIn (FR B.ro) 0 P ops Q r) Q fun G' w' a' hle hr' => runL_ok hTT hPT r (id + 1) σ1 σ' h hr' Q fun G2 w2 a2 hle2 hr2 => hQ G2 w2 a2 (hle.trans hle2) hr2
      unfold wpListIn
      exact this
    · cases h

/-- What holds behind a piece of code. -/
def Post (B : Base) (Q : Exit → AS → Prop) (e : Exit) (a : Act) (w : World) : Prop := ∃ D G σ, R (B.d D) G σ w a ∧ Q e σ
/-- Code runs from one abstract state to others. -/
def SP (P : Program) (B : Base) (c : Code) (σ : AS) (Q : Exit → AS → Prop) : Prop := ∀ D G w a, R (B.d D) G σ w a → c.wpIn (FR B.ro) 0 P (Post B Q) a w

variable {σ : AS} {Q : Exit → AS → Prop}
theorem sp_region (hTT : TTok P TT) (hPT : PTok P PT) {id : Nat} {ops : Array Oper} {σ' : AS} (h : runL TT PT ops ops.toList (nxt σ) σ = some σ') (k : Q .normal σ') : SP P B (.region id ops false) σ Q :=
  fun D G w a hr => wpIn_region_list (runL_ok hTT hPT _ _ _ _ h hr _ fun G' w' a' _ hr' => ⟨D, G', σ', hr', k⟩)
theorem sp_seq {x y : Code} (h : SP P B x σ (fun e τ => match e with | .normal => SP P B y τ Q | e => Q e τ)) : SP P B (.seq x y) σ Q :=
  fun D G w a hr => wpIn_seq (wpIn_mono (h D G w a hr) fun e a' w' hq => by
    obtain ⟨D', G', τ, hr', hq⟩ := hq
    cases e <;> first | exact hq D' G' w' a' hr' | exact ⟨D', G', τ, hr', hq⟩)
theorem sp_skip (h : Q .normal σ) : SP P B .skip σ Q := fun D G w a hr => wpIn_skip ⟨D, G, σ, hr, h⟩
theorem sp_ret (h : Q .ret σ) : SP P B .ret σ Q := fun D G w a hr => wpIn_ret ⟨D, G, σ, hr, h⟩
theorem sp_exit {id : Nat} (h : Q (.exit id) σ) : SP P B (.exit id) σ Q := fun D G w a hr => wpIn_exit ⟨D, G, σ, hr, h⟩
theorem sp_cond {c : Operand} {x y : Code} {b : Bool} (hc : σ.ev c = some (.v (.bool b))) (h1 : b = true → SP P B x σ Q) (h2 : b = false → SP P B y σ Q) : SP P B (.cond c x y) σ Q :=
  fun D G w a hr => wpIn_cond (hr.ev hc).v_eq (by
    cases b
    · exact h2 rfl D G w a hr
    · exact h1 rfl D G w a hr)
theorem sp_block {id : Nat} {c : Code} (h : SP P B c σ (fun e τ => match e with | .exit i => if i = id then Q .normal τ else Q (.exit i) τ | e => Q e τ)) : SP P B (.block id c) σ Q :=
  fun D G w a hr => wpIn_block (wpIn_mono (h D G w a hr) fun e a' w' hq => by
    obtain ⟨D', G', τ, hr', hq⟩ := hq
    cases e <;> first
      | exact ⟨D', G', τ, hr', hq⟩
      | (simp only [Exit.inBlock] at hq ⊢
         split at hq
         · rename_i h; subst h; simp only [if_true]; exact ⟨D', G', τ, hr', hq⟩
         · rename_i h
           first
           | (rw [if_neg h]; exact ⟨D', G', τ, hr', hq⟩)
           | (rw [if_neg (Ne.symm h)]; exact ⟨D', G', τ, hr', hq⟩)))
theorem sp_mono {c : Code} {Q' : Exit → AS → Prop} (h : SP P B c σ Q') (hq : ∀ e τ, Q' e τ → Q e τ) : SP P B c σ Q :=
  fun D G w a hr => wpIn_mono (h D G w a hr) fun e a' w' ⟨D', G', τ, hr', hq'⟩ => ⟨D', G', τ, hr', hq _ _ hq'⟩

/-- What is known is less, under other names. -/
structure WeakI (I : List Nat) (σ τ : AS) : Prop where
  n : τ.n = σ.n
  ren : ∃ ρ : Nat → Nat, (∀ t av, lk τ.slots t = some av → lk σ.slots t = some (av.ren ρ) ∧ ∀ k ∈ av.ids, k ∈ τ.ids) ∧
    (∀ k ob, lk τ.objs k = some ob → lk σ.objs (ρ k) = some ⟨ob.t, ob.sz, renLL ρ ob.xs⟩ ∧ k ∈ τ.ids ∧ ∀ q ∈ idsLL ob.xs, q ∈ τ.ids) ∧ (∀ k ob k' ob', lk τ.objs k = some ob → lk τ.objs k' = some ob' → ρ k = ρ k' → k = k') ∧ ∀ k ∈ I, ρ k = k ∧ k ∈ τ.ids
/-- Nothing of another's. -/
abbrev Weak (σ τ : AS) : Prop := WeakI [] σ τ
theorem R.weak {G : Gh} {w : World} {a : Act} {τ : AS} (hr : R B G σ w a) (h : WeakI B.I0 σ τ) : ∃ G', R B G' τ w a := by
  obtain ⟨hn, ρ, h1, h2, h3, hI⟩ := h
  refine ⟨⟨G.S, fun k => if k ∈ τ.ids then G.loc (ρ k) else none⟩, ?_⟩
  have hloc : ∀ k l, k ∈ τ.ids → G.loc (ρ k) = some l → (⟨G.S, fun k => if k ∈ τ.ids then G.loc (ρ k) else none⟩ : Gh).loc k = some l := fun k l hk hl => by
    show (if k ∈ τ.ids then G.loc (ρ k) else none) = some l
    rw [if_pos hk]; exact hl
  have hback : ∀ k ob b x, lk τ.objs k = some ob → (⟨G.S, fun k => if k ∈ τ.ids then G.loc (ρ k) else none⟩ : Gh).loc k = some (some b, x) → G.loc (ρ k) = some (some b, x) := fun k ob b x hk hl => by
    have : (if k ∈ τ.ids then G.loc (ρ k) else none) = some (some b, x) := hl
    rw [if_pos (h2 k ob hk).2.1] at this; exact this
  have hh := hr.heap
  refine ⟨by rw [hn]; exact hr.n, fun t av ht => ?_, hr.defers, ?_, fun k hk => ?_⟩
  · obtain ⟨g1, g2⟩ := h1 t av ht
    obtain ⟨g3, g4⟩ := hr.slot t _ g1
    exact ⟨by rw [hn]; exact g3, Rv.renamed (G := G) (G' := ⟨G.S, fun k => if k ∈ τ.ids then G.loc (ρ k) else none⟩) ρ (fun _ _ _ h => h) g4 fun k hk l hl => hloc k l (g2 k hk) hl⟩
  · refine ⟨hh.os, hh.tape, hh.output, hh.size, hh.old, fun k ob hk => ?_, fun k ob hk b base cap sz hl => hh.own (ρ k) _ (h2 k ob hk).1 _ _ _ _ (hback k ob _ _ hk hl), fun k k' ob ob' hk hk' b x y hl hl' => h3 k ob k' ob' hk hk' (hh.inj _ _ _ _ (h2 k ob hk).1 (h2 k' ob' hk').1 _ _ _ (hback _ _ _ _ hk hl) (hback _ _ _ _ hk' hl')), hh.st, fun k ob hk b x hl => hh.sep (ρ k) _ (h2 k ob hk).1 b x (hback _ _ _ _ hk hl), hh.fresh, hh.keep, fun k l hk => ?_, hh.pin, hh.base⟩
    · obtain ⟨g1, g2, g3⟩ := h2 k ob hk
      obtain ⟨blk, base, cap, f1, f2, f3, f4, f5⟩ := hh.obj _ _ g1
      simp only [renLL_len, renLL_getD, renL_len] at f1 f2 f4 f5
      refine ⟨blk, base, cap, hloc k _ g2 f1, f2, f3, f4, ?_⟩
      cases blk with
      | none => exact f5
      | some b =>
        obtain ⟨vs, f6, f7, f8⟩ := f5
        refine ⟨vs, f6, f7, fun i j hi hj => ?_⟩
        obtain ⟨f9, f10⟩ := f8 i j hi hj
        refine ⟨f9, ?_⟩
        rw [renL_getD] at f10
        refine Rv.renamed (G := G) (G' := ⟨G.S, fun k => if k ∈ τ.ids then G.loc (ρ k) else none⟩) ρ (fun _ _ _ h => h) f10 fun q hq l hl => hloc q l (g3 q ?_) hl
        exact idsLL_mem hi (idsL_mem (by rw [f4 i hi]; exact hj) hq)
    · obtain ⟨g1, g2⟩ := hI k (hh.base.2 k l hk)
      exact hloc k l g2 (by rw [g1]; exact hh.fix k l hk)
  · have : (if k ∈ τ.ids then G.loc (ρ k) else none) ≠ none := hk
    split at this
    · assumption
    · exact absurd rfl this
theorem sp_weak {c : Code} {τ : AS} (h : WeakI B.I0 σ τ) (k : SP P B c τ Q) : SP P B c σ Q := fun D G w a hr => by
  obtain ⟨G', hr'⟩ := hr.weak (B := B.d D) h
  exact k D G' w a hr'

/-- A loop: states by an index, whose measure falls. -/
theorem sp_loop {ι : Type} {c : Code} (J : ι → AS) (μ : ι → Nat) (i0 : ι) (h0 : WeakI B.I0 σ (J i0)) (round : ∀ i, SP P B c (J i) (fun e τ => match e with | .normal => ∃ j, μ j < μ i ∧ WeakI B.I0 τ (J j) | e => Q e τ)) : SP P B (.loop c) σ Q :=
  fun D G w a hr => by
    obtain ⟨G', hr'⟩ := hr.weak (B := B.d D) h0
    refine wpIn_loop_ghost (fun n a w => ∃ i D G, μ i = n ∧ R (B.d D) G (J i) w a) (μ i0) ⟨i0, D, G', rfl, hr'⟩ ?_
    rintro n a w ⟨i, D, G, rfl, hri⟩
    refine wpIn_mono (round i D G w a hri) fun e a' w' hq => ?_
    obtain ⟨D2, G2, τ, hr2, hq⟩ := hq
    cases e <;> first
      | (obtain ⟨j, hj, hw⟩ := hq
         obtain ⟨G3, hr3⟩ := hr2.weak (B := B.d D2) hw
         exact ⟨μ j, hj, j, D2, G3, rfl, hr3⟩)
      | exact ⟨D2, G2, τ, hr2, hq⟩

/-! ### Results -/
def ret1 (TT : TTab) (σ : AS) : ResultVar → Option AV
  | .tmp t => if t < σ.n then lk σ.slots t else none
  | .cell t ty => match TT ty, lk σ.slots t with
    | some ti, some (.ptr k e j) => match lk σ.objs k with
      | some ob => if e < ob.xs.length ∧ j + ti.size ≤ ob.sz then some (ldA ti ((ob.xs.getD e []).drop j)) else none
      | none => none
    | _, _ => none
def retL (TT : TTab) (σ : AS) : List ResultVar → Option (List AV)
  | [] => some []
  | r :: rs => match ret1 TT σ r, retL TT σ rs with
    | some a, some l => some (a :: l)
    | _, _ => none
def retA (TT : TTab) (σ : AS) (rs : List ResultVar) : Option AV :=
  match retL TT σ rs with
  | some [a] => some a
  | some l => some (.tup l)
  | none => none
def resV (tmps : Array Value) : ResultVar → Sem Value
  | .tmp t => pure (tmps.getD t undef)
  | .cell c t => do loadVar t (← asAddr (tmps.getD c undef))
theorem results_eq (fn : Func) (tmps : Array Value) : results fn tmps = (do let vs ← fn.results.mapM (resV tmps); pure (if h : vs.size = 1 then vs[0] else .tuple vs)) := rfl
theorem ret1_ok (hTT : TTok P TT) {G : Gh} {w : World} {a : Act} (hr : R B G σ w a) {rv : ResultVar} {av : AV} (h : ret1 TT σ rv = some av) :
    ∃ v, (resV a.tmps rv).run P w = .ok v w ∧ Rv G av v := by
  unfold ret1 at h
  split at h
  · rename_i t
    split at h
    · exact ⟨_, rfl, (hr.slot _ _ h).2⟩
    · cases h
  · rename_i t ty
    split at h
    · rename_i ti k e j hti hx
      split at h
      · rename_i ob hk
        split at h
        · rename_i hc
          obtain ⟨he, hj⟩ := hc
          cases h
          obtain ⟨b, base, cap, sz, hl, hv⟩ := ptr_inv (hr.slot _ _ hx).2
          obtain ⟨blk, ba, ca, h1, h2, h3, h4, h5⟩ := hr.heap.obj k ob hk
          have hlen := h4 e he
          have hsz : sz = ob.sz := by rw [hl] at h1; cases h1; rfl
          subst hsz
          obtain ⟨u, h6, h7⟩ := run_loadVarAt (P := P) (hTT _ _ hti) (G := G) (w := w) (b := b) (o := base + (e * ob.sz + j)) (cs := (ob.xs.getD e []).drop j) (fun i hi => by
            obtain ⟨_, u, g1, _, g2, g3⟩ := hr.cellsOf hk hl he (j := j + i) (by omega)
            exact ⟨u, by rw [← g1]; congr 2; omega, g2, by simpa [List.getD, List.getElem?_drop] using g3⟩)
          refine ⟨u, ?_, h7.resolve_left (by rw [List.length_drop, hlen]; omega)⟩
          simp only [resV, Sem.run_bind, hv, asAddr, Sem.run_pure, Result.andThen_ok, h6]
        · cases h
      · cases h
    · cases h
theorem retL_ok (hTT : TTok P TT) {G : Gh} {w : World} {a : Act} (hr : R B G σ w a) : ∀ {rs : List ResultVar} {l : List AV}, retL TT σ rs = some l →
    ∃ vs : List Value, (rs.mapM (resV a.tmps)).run P w = .ok vs w ∧ vs.length = l.length ∧ ∀ i, i < l.length → Rv G (l.getD i .any) (vs.getD i undef)
  | [], l, h => by simp only [retL, Option.some.injEq] at h; subst h; exact ⟨[], rfl, rfl, fun i hi => by simp at hi⟩
  | r :: rs, l, h => by
    simp only [retL] at h
    split at h
    · rename_i av l' h1 h2
      cases h
      obtain ⟨v, h3, h4⟩ := ret1_ok hTT hr h1
      obtain ⟨vs, h5, h6, h7⟩ := retL_ok hTT hr h2
      refine ⟨v :: vs, ?_, by simp [h6], fun i hi => ?_⟩
      · rw [List.mapM_cons, Sem.run_bind, h3]
        simp only [Result.andThen_ok, Sem.run_bind, h5, Sem.run_pure]
      · cases i with
        | zero => simpa using h4
        | succ i => simpa using h7 i (by simpa using hi)
    · cases h
theorem retA_ok (hTT : TTok P TT) {G : Gh} {w : World} {a : Act} (hr : R B G σ w a) {fn : Func} {av : AV} (h : retA TT σ fn.results.toList = some av) : ∃ v, (results fn a.tmps).run P w = .ok v w ∧ Rv G av v := by
  unfold retA at h
  have key : ∀ l, retL TT σ fn.results.toList = some l → ∃ vs : List Value, (results fn a.tmps).run P w = .ok (if h : vs.toArray.size = 1 then vs.toArray[0] else .tuple vs.toArray) w ∧ vs.length = l.length ∧ ∀ i, i < l.length → Rv G (l.getD i .any) (vs.getD i undef) := fun l hl => by
    obtain ⟨vs, h1, h2, h3⟩ := retL_ok hTT hr hl
    refine ⟨vs, ?_, h2, h3⟩
    rw [results_eq, Array.mapM_eq_mapM_toList]
    simp only [Sem.run_bind, Sem.run_map, h1, Result.andThen_ok, Sem.run_pure]
  split at h
  · rename_i x hl
    cases h
    obtain ⟨vs, h1, h2, h3⟩ := key _ hl
    match vs, h2 with
    | [v], _ => exact ⟨v, h1, by simpa using h3 0 (by simp)⟩
  · rename_i l hne hl
    cases h
    obtain ⟨vs, h1, h2, h3⟩ := key _ hl
    have hs : ¬ vs.toArray.size = 1 := fun e => by
      have e' : l.length = 1 := by rw [← h2]; simpa using e
      obtain ⟨x, hx⟩ := List.length_eq_one_iff.1 e'
      exact hne x hx
    rw [dif_neg hs] at h1
    exact ⟨_, h1, .tup l vs h2 h3⟩
  · cases h

/-- The slots at the start of a call. -/
def enumA : Nat → List AV → List (Nat × AV)
  | _, [] => []
  | i, a :: r => (i, a) :: enumA (i + 1) r
theorem lk_enumA : ∀ (l : List AV) (i t : Nat) (av : AV), lk (enumA i l) t = some av → i ≤ t ∧ t < i + l.length ∧ l.getD (t - i) .any = av
  | [], i, t, av, h => by simp [enumA, lk] at h
  | a :: r, i, t, av, h => by
    simp only [enumA, lk] at h
    split at h
    · rename_i e; subst e; cases h; simp
    · rename_i e
      obtain ⟨h1, h2, h3⟩ := lk_enumA r (i + 1) t av h
      refine ⟨by omega, by simp; omega, ?_⟩
      have : t - i = (t - (i + 1)) + 1 := by omega
      rw [this]; simpa using h3
/-- What a function that only computes comes to. -/
def PostP (TT : TTab) (fn : Func) (res : AV) (e : Exit) (σ : AS) : Prop := (e = .normal ∨ e = .ret) ∧ ∃ av, retA TT σ fn.results.toList = some av ∧ σ.shut (fun _ => true) av = some res
/-- A mark is taken off. -/
theorem R.unpin {r : Nat} {D : List Nat} {G : Gh} {w : World} {a : Act} (hr : R (B.d (r :: D)) G σ w a) : R (B.d D) G σ (w.putObj r (.deferred none)) { a with defers := D.map mark } := by
  have hh := hr.heap
  obtain ⟨hp, hge⟩ := hh.pin r (by simp [Base.d])
  have hlt := (Array.getElem?_eq_some_iff.1 hp).1
  have hoth : ∀ b, b ≠ r → (w.putObj r (.deferred none)).heap[b]? = w.heap[b]? := fun b hb => World.putObj_heap_other hb
  have hobj : ∀ k ob b x, lk σ.objs k = some ob → G.loc k = some (some b, x) → b ≠ r := fun k ob b x hk hl e => by
    subst e
    obtain ⟨blk, base, cap, h1, _, _, _, h5⟩ := hh.obj k ob hk
    rw [hl] at h1
    cases h1
    obtain ⟨vs, h6, _⟩ := h5
    rw [hp] at h6; cases h6
  refine ⟨hr.n, hr.slot, rfl, ⟨hh.os, hh.tape, hh.output, by rw [World.putObj_size]; exact hh.size, fun b hb hn => ?_, fun k o hk => (hh.obj k o hk).mono (Gh.le.refl G) fun b base cap sz hl => hoth b (hobj k o b _ hk hl), hh.own, hh.inj, fun b o u hs => ?_, hh.sep, hh.fresh, hh.keep, hh.fix, fun q hq => ?_, ?_⟩, hr.ids⟩
  · rw [hoth b (fun e => by subst e; have : B.w0.heap.size ≤ b := hge; have : b < B.w0.heap.size := hb; omega)]
    exact hh.old b hb hn
  · have h1 := hh.st b o u hs
    have hne : b ≠ r := fun e => by
      subst e
      unfold World.cell? at h1
      simp only [hp] at h1; cases h1
    rw [← h1]
    exact World.cell?_of_block (hoth b hne)
  · have hnd := hh.base.1
    have hq' : q ∈ (B.d (r :: D)).D := List.mem_cons_of_mem _ hq
    have hne : q ≠ r := fun e => by
      subst e
      exact (List.nodup_cons.1 hnd).1 hq
    rw [hoth q hne]
    exact hh.pin q hq'
  · exact ⟨(List.nodup_cons.1 hh.base.1).2, hh.base.2⟩
/-- A function's end: its marks are taken off, its results are read. -/
theorem leaves_ok (hTT : TTok P TT) {fn : Func} {τ : AS} {av : AV} (h : retA TT τ fn.results.toList = some av) {Rf : Ending → World → Prop} : ∀ (D : List Nat) (G : Gh) (w : World) (a : Act), R (B.d D) G τ w a → (∀ w' v, R (B.d []) G τ w' { a with defers := [] } → Rv G av v → Rf (.returned v) w') → LeavesInM Fence.wide 0 P fn a.tmps Rf (D.map mark) .returning w
  | [], G, w, a, hr, hR => by
    obtain ⟨v, h1, h2⟩ := retA_ok hTT hr h
    exact ⟨v, h1, hR w v ⟨hr.n, hr.slot, rfl, hr.heap, hr.ids⟩ h2⟩
  | r :: D, G, w, a, hr, hR => by
    refine ⟨by simp, .inl ⟨r, _, rfl, run_takeDeferred (hr.heap.pin r (by simp [Base.d])).1, ?_⟩⟩
    exact leaves_ok hTT h D G _ { a with defers := D.map mark } hr.unpin fun w' v h1 h2 => hR w' v h1 h2
/-- A call: the body runs from this base on; what it returns. -/
theorem call_sp (hTT : TTok P TT) {f : FuncId} {fn : Func} {c : Code} (hf : P.funcs[f]? = some fn) (hb : fn.body = some c) (hro : B.ro = none) {G : Gh} {w : World} {vs : Array Value} {σ0 : AS} (hr : R (B.d []) G σ0 w { tmps := vs ++ Array.replicate (fn.ntmps - vs.size) undef, defers := [] }) {K : AV → AS → Prop}
    (h : SP P B c σ0 (fun e τ => (e = .normal ∨ e = .ret) ∧ ∃ av, retA TT τ fn.results.toList = some av ∧ K av τ)) : Calls P f vs w fun e w' => ∃ v G' τ av a', e = .returned v ∧ R (B.d []) G' τ w' a' ∧ Rv G' av v ∧ K av τ := by
  refine (callsIn_wide (n := 0)).1 (callsIn_of_wp_marks (F := Fence.wide) hf hb trivial ?_)
  have h1 := h [] G w _ hr
  rw [hro, FR_none] at h1
  refine wpIn_mono h1 fun e a' w' hq => ?_
  obtain ⟨D, G', τ, hr', he, av, hav, hK⟩ := hq
  have hd : a'.defers = D.map mark := hr'.defers
  have := leaves_ok (B := B) hTT hav (Rf := fun e w' => ∃ v G' τ av a', e = .returned v ∧ R (B.d []) G' τ w' a' ∧ Rv G' av v ∧ K av τ) D G' w' a' hr' fun w2 v h2 h3 => ⟨v, G', τ, av, _, rfl, h2, h3, hK⟩
  rw [← hd] at this
  rcases he with rfl | rfl
  · exact this
  · exact this
theorem entry_slots {args : List AV} {vs : Array Value} {G : Gh} {n : Nat} (hn : args.length ≤ n) (hvs : vs.size = args.length) (hargs : ∀ i, i < args.length → Rv G (args.getD i .any) (vs.getD i undef)) {m : Nat} : ∀ t av, lk (enumA 0 args) t = some av → t < n ∧ Rv G av ((vs ++ Array.replicate m undef).getD t undef) := fun t av ht => by
  obtain ⟨_, h2, h3⟩ := lk_enumA args 0 t av ht
  simp only [Nat.zero_add, Nat.sub_zero] at h2 h3
  subst h3
  refine ⟨by omega, ?_⟩
  have := hargs t h2
  have e : (vs ++ Array.replicate m undef).getD t undef = vs.getD t undef := by
    rw [Array.getD_eq_getD_getElem?, Array.getElem?_append_left (by omega), ← Array.getD_eq_getD_getElem?]
  rw [e]; exact this
theorem fn_sp (hTT : TTok P TT) {f : FuncId} {fn : Func} {c : Code} (hf : P.funcs[f]? = some fn) (hb : fn.body = some c) {args : List AV} {res : AV} (hn : args.length ≤ fn.ntmps) (h : ∀ B : Base, B.I0 = [] → B.ro = none → SP P B c ⟨fn.ntmps, enumA 0 args, [], []⟩ (PostP TT fn res)) : FnPure P f args res := by
  intro S w vs hS hvs hargs
  have h0 : R (Base.d { w0 := w, S0 := S, bs := [] } []) (G0 S) ⟨fn.ntmps, enumA 0 args, [], []⟩ w { tmps := vs ++ Array.replicate (fn.ntmps - vs.size) undef, defers := [] } :=
    ⟨by simp; omega, entry_slots hn hvs hargs, rfl, ⟨rfl, rfl, rfl, Nat.le_refl _, fun _ _ _ => rfl, fun k o hk => by simp [lk] at hk, fun k o hk => by simp [lk] at hk, fun k k' o o' hk => by simp [lk] at hk, hS, fun k o hk => by simp [lk] at hk, fun b o u h => .inl h, fun b o u h => h, fun k l hk => (by cases hk), fun r hr => (by cases hr), (by simp [Base.d])⟩, fun k hk => by simp [G0] at hk⟩
  refine (call_sp hTT hf hb rfl h0 (K := fun av τ => τ.shut (fun _ => true) av = some res) (sp_mono (h { w0 := w, S0 := S, bs := [] } rfl rfl) fun e τ h => h)).mono fun e w' hq => ?_
  obtain ⟨v, G', τ, av, a', rfl, hr', h2, hsh⟩ := hq
  have hfz := hr'.freeze (fun _ => true) [] (fun k ob hk => by simp [lk] at hk)
  refine ⟨v, (G'.frz τ (fun _ => true) w').S, rfl, ⟨hr'.heap.os, hr'.heap.tape, hr'.heap.output, hr'.heap.size, fun k hk => hr'.heap.old k hk (by simp [Base.d])⟩, hfz.heap.keep, hfz.heap.st, fun b o u hs => ?_, ?_⟩
  · rcases hfz.heap.fresh b o u hs with h | h | h
    · exact .inl h
    · exact .inr h
    · simp [Base.d] at h
  · exact shut_ok hr' (D := fun _ => true) (T := (G'.frz τ (fun _ => true) w').S) (L := fun _ => none) (frz_le hr' _).S (fun k ob b x p u hD hk hl hc => by rw [frz_in hD hk hl]; exact hc) h2 hsh
end sound
end Go.Proofs.Ytkollnaojpppcaa
