/- An abstract machine for the text, part thirty-one: states with fewer slots; loops and calls over objects that are only known by facts; plain lemmas over any program; no condition. -/
import Derived.Test.YtafikekndefjcaaDoorAm21
namespace Go.Proofs.YtafikekndefjcaaDoor
set_option linter.unusedVariables false
set_option linter.unusedSimpArgs false
set_option linter.unusedSectionVars false
open Go.RowKit
section sub
variable {P : Program} {TT : TTab} {PT : PTab} {B : Base} {G : Gh} {σ τ : AS} {w : World} {a : Act} {Q : Exit → AS → Prop} {ops : Array Oper}
structure SubS (σ τ : AS) : Prop where
  n : τ.n = σ.n
  slots : ∀ t av, lk τ.slots t = some av → lk σ.slots t = some av
  objs : ∀ k ob, lk τ.objs k = some ob → lk σ.objs k = some ob
  ids : ∀ k ∈ σ.ids, k ∈ τ.ids
theorem SubS.of {n : Nat} {slots : List (Nat × AV)} {O : List (Nat × AObj)} {I : List Nat} (hn : n = σ.n) (hs : ∀ p ∈ slots, lk σ.slots p.1 = some p.2) (ho : σ.objs = O) (hi : σ.ids = I) : SubS σ ⟨n, slots, O, I⟩ := by
  subst ho hi
  refine ⟨hn, fun t av h => ?_, fun _ _ h => h, fun _ h => h⟩
  have hm : ∀ {l : List (Nat × AV)}, lk l t = some av → (t, av) ∈ l := by
    intro l
    induction l with
    | nil => intro h; cases h
    | cons p l ih =>
      obtain ⟨e, x⟩ := p
      intro h
      simp only [lk] at h
      split at h
      · rename_i he; cases h; subst he; exact List.mem_cons_self
      · exact List.mem_cons_of_mem _ (ih h)
  exact hs _ (hm h)
theorem SubS.ofL {n : Nat} {slots : List (Nat × AV)} {O : List (Nat × AObj)} {I : List Nat} (hn : n = σ.n) (hs : ∀ p ∈ slots, lk σ.slots p.1 = some p.2) (ho : ∀ k, lk O k = lk σ.objs k) (hi : σ.ids = I) : SubS σ ⟨n, slots, O, I⟩ := by
  have h := SubS.of (O := σ.objs) hn hs rfl hi
  exact ⟨h.n, h.slots, fun k ob hk => by rw [← ho]; exact hk, h.ids⟩
theorem R.subS (hr : R B G σ w a) (h : SubS σ τ) : R B G τ w a := by
  have hh := hr.heap
  refine ⟨by rw [h.n]; exact hr.n, fun t av ht => ?_, hr.defers, ⟨hh.os, hh.tape, hh.output, hh.size, hh.old, fun k ob hk => hh.obj k ob (h.objs k ob hk), fun k ob hk => hh.own k ob (h.objs k ob hk), fun k k' ob ob' hk hk' => hh.inj k k' ob ob' (h.objs k ob hk) (h.objs k' ob' hk'), hh.st, fun k ob hk => hh.sep k ob (h.objs k ob hk), hh.fresh, hh.keep, hh.fix, hh.pin, hh.base⟩, fun k hk => h.ids k (hr.ids k hk)⟩
  obtain ⟨h1, h2⟩ := hr.slot t av (h.slots t av ht)
  exact ⟨by rw [h.n]; exact h1, h2⟩
theorem s_subS {c : Code} (h : SubS σ τ) (k : SP P B c τ Q) : SP P B c σ Q := fun D G w a hr => k D G w a (hr.subS h)
theorem spl_subS {l : List Oper} (h : SubS σ τ) (k : SPL P B ops l τ Q) : SPL P B ops l σ Q := fun D G w a hr => k D G w a (hr.subS h)
def KlpS {ι : Type} (J : ι → AS) (μ : ι → Nat) (i : ι) (Q : Exit → AS → Prop) (e : Exit) (τ : AS) : Prop := match e with
  | .normal => ∃ j, μ j < μ i ∧ SubS τ (J j)
  | e => Q e τ
theorem ks_lp {ι : Type} {J : ι → AS} {μ : ι → Nat} {i : ι} (j : ι) (h : μ j < μ i) (hw : SubS σ (J j)) : KlpS J μ i Q .normal σ := ⟨j, h, hw⟩
theorem ks_ret {ι : Type} {J : ι → AS} {μ : ι → Nat} {i : ι} (h : Q .ret σ) : KlpS J μ i Q .ret σ := h
theorem ks_exit {ι : Type} {J : ι → AS} {μ : ι → Nat} {i : ι} {n : Nat} (h : Q (.exit n) σ) : KlpS J μ i Q (.exit n) σ := h
theorem s_loopS {ι : Type} {c : Code} (J : ι → AS) (μ : ι → Nat) (i0 : ι) (h0 : SubS σ (J i0)) (round : ∀ i, SP P B c (J i) (KlpS J μ i Q)) : SP P B (.loop c) σ Q :=
  fun D G w a hr => by
    refine wpIn_loop_ghost (fun n a w => ∃ i D G, μ i = n ∧ R (B.d D) G (J i) w a) (μ i0) ⟨i0, D, G, rfl, hr.subS h0⟩ ?_
    rintro n a w ⟨i, D, G, rfl, hri⟩
    refine wpIn_mono (round i D G w a hri) fun e a' w' hq => ?_
    obtain ⟨D2, G2, τ, hr2, hq⟩ := hq
    cases e <;> first
      | (
         obtain ⟨j, hj, hw⟩ := hq
         exact ⟨μ j, hj, j, D2, G2, rfl, hr2.subS hw⟩)
      | exact ⟨D2, G2, τ, hr2, hq⟩
def Proc (P : Program) (TT : TTab) (fn : Func) (c : Code) (L : List AV) (O : List (Nat × AObj)) (I : List Nat) (K : AV → List (Nat × AObj) → List Nat → Prop) : Prop :=
  ∀ B' : Base, B'.I0 = I → B'.ro = none → SP P B' c ⟨fn.ntmps, enumA 0 L, O, I⟩ (fun e τ => (e = .normal ∨ e = .ret) ∧ ∃ av, retA TT τ fn.results.toList = some av ∧ K av τ.objs τ.ids)
theorem Proc.mono {fn : Func} {c : Code} {L : List AV} {O : List (Nat × AObj)} {I : List Nat} {K K' : AV → List (Nat × AObj) → List Nat → Prop} (h : Proc P TT fn c L O I K) (hk : ∀ av O' I', K av O' I' → K' av O' I') : Proc P TT fn c L O I K' := fun B' h1 h2 => sp_mono (h B' h1 h2) fun _ τ h => by
  obtain ⟨h3, av, h4, h5⟩ := h
  exact ⟨h3, av, h4, hk av τ.objs τ.ids h5⟩
theorem spl_proc (hTT : TTok P TT) {o : Oper} {r : List Oper} {x : Operand} {args : Array Operand} {ts : Array TypeId} {f : FuncId} {fn : Func} {c : Code} {avs cs : List AV} (hd : dstOk σ o = true) (hw : wantA σ ops o = some true) (ho : o.op = .call { callee := .value x, args := args, argTypes := ts })
    (hfn : fnB P f = true) (hf : P.funcs[f]? = some fn) (hb : fn.body = some c) (hx : σ.callee x = some (f, cs)) (ha : σ.evs args.toList = some avs) (hn : (avs ++ cs).length ≤ fn.ntmps) {K : AV → List (Nat × AObj) → List Nat → Prop}
    (hP : Proc P TT fn c (avs ++ cs) σ.objs σ.ids K) (k : ∀ av O' I', K av O' I' → SPL P B ops r (AS.put ⟨σ.n, σ.slots, O', I'⟩ o.dst av) Q) : SPL P B ops (o :: r) σ Q :=
  spl_call hTT hd hw ho hfn hf hb hx ha hn fun B' h1 h2 => sp_mono (hP B' h1 h2) fun _ τ h => by
    obtain ⟨h3, av, h4, h5⟩ := h
    exact ⟨h3, av, h4, k av τ.objs τ.ids h5⟩
def ProcB (P : Program) (TT : TTab) (fn : Func) (L : List AV) (O : List (Nat × AObj)) (I : List Nat) (K : AV → List (Nat × AObj) → List Nat → Prop) : Prop := ∃ c, fn.body = some c ∧ Proc P TT fn c L O I K
theorem ProcB.mono {fn : Func} {L : List AV} {O : List (Nat × AObj)} {I : List Nat} {K K' : AV → List (Nat × AObj) → List Nat → Prop} (h : ProcB P TT fn L O I K) (hk : ∀ av O' I', K av O' I' → K' av O' I') : ProcB P TT fn L O I K' := by
  obtain ⟨c, h1, h2⟩ := h
  exact ⟨c, h1, h2.mono hk⟩
theorem spl_procB (hTT : TTok P TT) {o : Oper} {r : List Oper} {x : Operand} {args : Array Operand} {ts : Array TypeId} {f : FuncId} {fn : Func} {avs cs : List AV} (hd : dstOk σ o = true) (hw : wantA σ ops o = some true) (ho : o.op = .call { callee := .value x, args := args, argTypes := ts })
    (hfn : fnB P f = true) (hf : P.funcs[f]? = some fn) (hx : σ.callee x = some (f, cs)) (ha : σ.evs args.toList = some avs) (hn : (avs ++ cs).length ≤ fn.ntmps) {K : AV → List (Nat × AObj) → List Nat → Prop}
    (hP : ProcB P TT fn (avs ++ cs) σ.objs σ.ids K) (k : ∀ av O' I', K av O' I' → SPL P B ops r (AS.put ⟨σ.n, σ.slots, O', I'⟩ o.dst av) Q) : SPL P B ops (o :: r) σ Q := by
  obtain ⟨c, h1, h2⟩ := hP
  exact spl_proc hTT hd hw ho hfn hf h1 hx ha hn h2 k
end sub
end Go.Proofs.YtafikekndefjcaaDoor
