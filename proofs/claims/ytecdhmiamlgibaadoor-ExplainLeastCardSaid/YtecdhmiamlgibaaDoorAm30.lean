/- An abstract machine for the text, part thirty: a loop over a function that is left in its first round; plain lemmas over any program; no condition. -/
import Derived.Test.YtecdhmiamlgibaaDoorAm21
namespace Go.Proofs.YtecdhmiamlgibaaDoor
set_option linter.unusedVariables false
set_option linter.unusedSimpArgs false
set_option linter.unusedSectionVars false
open Go.RowKit
section sub
variable {P : Program} {TT : TTab} {PT : PTab} {B B2 : Base} {G : Gh} {σ : AS} {w : World} {a : Act} {Q : Exit → AS → Prop} {ops : Array Oper}
def SPX (P : Program) (B B2 : Base) (c : Code) (σ : AS) (Q : Exit → AS → Prop) : Prop := ∀ D G w a, R (B.d D) G σ w a → c.wpIn (FR B.ro) 0 P (Post B2 Q) a w
def SPLX (P : Program) (B B2 : Base) (ops : Array Oper) (l : List Oper) (σ : AS) (Q : Exit → AS → Prop) : Prop := ∀ D G w a, R (B.d D) G σ w a → wpListIn (FR B.ro) 0 P ops (Post B2 Q) l a w
theorem spx_seq {x y : Code} (h : SP P B x σ (fun e τ => e = .normal ∧ SPX P B B2 y τ Q)) : SPX P B B2 (.seq x y) σ Q :=
 fun D G w a hr => wpIn_seq (wpIn_mono (h D G w a hr) fun e a' w' hq => by
  obtain ⟨D', G', τ, hr', rfl, hq⟩ := hq
  exact hq D' G' w' a' hr')
theorem spx_seq2 {x y : Code} (hro : B2.ro = B.ro) (h : SPX P B B2 x σ (fun e τ => match e with | .normal => SP P B2 y τ Q | e => Q e τ)) : SPX P B B2 (.seq x y) σ Q :=
 fun D G w a hr => wpIn_seq (wpIn_mono (h D G w a hr) fun e a' w' hq => by
  obtain ⟨D', G', τ, hr', hq⟩ := hq
  cases e <;> first | exact ⟨D', G', τ, hr', hq⟩ | (rw [← hro]; exact hq D' G' w' a' hr'))
theorem spx_block {id : Nat} {c : Code} (h : SPX P B B2 c σ (fun e τ => e = .ret ∧ Q .ret τ)) : SPX P B B2 (.block id c) σ Q :=
 fun D G w a hr => wpIn_block (wpIn_mono (h D G w a hr) fun e a' w' hq => by
  obtain ⟨D', G', τ, hr', rfl, hq⟩ := hq
  exact ⟨D', G', τ, hr', hq⟩)
theorem spx_seqR {x y : Code} (h : SPX P B B2 x σ (fun e τ => e = .ret ∧ Q .ret τ)) : SPX P B B2 (.seq x y) σ Q :=
 fun D G w a hr => wpIn_seq (wpIn_mono (h D G w a hr) fun e a' w' hq => by
  obtain ⟨D', G', τ, hr', rfl, hq⟩ := hq
  exact ⟨D', G', τ, hr', hq⟩)
theorem spx_mono {c : Code} {Q' : Exit → AS → Prop} (h : SPX P B B2 c σ Q') (hq : ∀ e τ, Q' e τ → Q e τ) : SPX P B B2 c σ Q :=
 fun D G w a hr => wpIn_mono (h D G w a hr) fun e a' w' ⟨D', G', τ, hr', hq'⟩ => ⟨D', G', τ, hr', hq _ _ hq'⟩
theorem spx_region {id : Nat} (h : SPLX P B B2 ops ops.toList σ Q) : SPX P B B2 (.region id ops false) σ Q := fun D G w a hr => wpIn_region_list (h D G w a hr)
theorem splx_step (hTT : TTok P TT) (hPT : PTok P PT) {id : Nat} {o : Oper} {r : List Oper} {σ' : AS} (h : stepA TT PT ops id σ o = some σ') (k : SPLX P B B2 ops r σ' Q) : SPLX P B B2 ops (o :: r) σ Q := fun D G w a hr => by
 have := stepA_ok hTT hPT h hr (wpListIn (FR B.ro) 0 P ops (Post B2 Q) r) (Post B2 Q) fun G' w' a' _ hr' => k D G' w' a' hr'
 unfold wpListIn
 exact this
theorem spx_weak {c : Code} {τ : AS} (h : WeakI B.I0 σ τ) (k : SPX P B B2 c τ Q) : SPX P B B2 c σ Q := fun D G w a hr => by
 obtain ⟨G', hr'⟩ := hr.weak (B := B.d D) h
 exact k D G' w a hr'
theorem spx_loop {ι : Type} {c : Code} (J : ι → AS) (μ : ι → Nat) (i0 : ι) (h0 : WeakI B.I0 σ (J i0)) (round : ∀ i, SP P B c (J i) (fun e τ => e = .normal ∧ ∃ j, μ j < μ i ∧ WeakI B.I0 τ (J j)) ∨ SPX P B B2 c (J i) (fun e τ => e = .ret ∧ Q .ret τ)) : SPX P B B2 (.loop c) σ Q :=
 fun D G w a hr => by
  obtain ⟨G', hr'⟩ := hr.weak (B := B.d D) h0
  refine wpIn_loop_ghost (fun n a w => ∃ i D G, μ i = n ∧ R (B.d D) G (J i) w a) (μ i0) ⟨i0, D, G', rfl, hr'⟩ ?_
  rintro n a w ⟨i, D, G, rfl, hri⟩
  rcases round i with hk | hk
  ·refine wpIn_mono (hk D G w a hri) fun e a' w' hq => ?_
   obtain ⟨D2, G2, τ, hr2, rfl, j, hj, hw⟩ := hq
   obtain ⟨G3, hr3⟩ := hr2.weak (B := B.d D2) hw
   exact ⟨μ j, hj, j, D2, G3, rfl, hr3⟩
  ·refine wpIn_mono (hk D G w a hri) fun e a' w' hq => ?_
   obtain ⟨D2, G2, τ, hr2, rfl, hq⟩ := hq
   exact ⟨D2, G2, τ, hr2, hq⟩
theorem spx_loop1 {c : Code} (J : AS) (h0 : WeakI B.I0 σ J) (round : SPX P B B2 c J (fun e τ => e = .ret ∧ Q .ret τ)) : SPX P B B2 (.loop c) σ Q := spx_loop (fun _ : Unit => J) (fun _ => 0) () h0 fun _ => .inr round
def YieldOut (P : Program) (B B2 : Base) (yk n : Nat) (slots : List (Nat × AV)) (ps : Array Tmp) (assign body : Code) : Prop :=
 ∀ (ops : Array Oper) (o : Oper) (r : List Oper) (σ : AS) (Q : Exit → AS → Prop) (x : Operand) (args : Array Operand) (ts : Array TypeId) (avs : List AV),
  dstOk σ o = true → wantA σ ops o = some true → o.op = .call { callee := .value x, args := args, argTypes := ts } → σ.ev x = some (.yld yk) → σ.evs args.toList = some avs → avs.length = ps.size →
  (∀ B1 : Base, B1.I0 = σ.ids → B1.ro.isSome = true → SP P B1 assign ⟨n, setps slots ps.toList avs, σ.objs, σ.ids⟩ (fun e τ1 => e = .normal ∧ ∀ B3 : Base, B3.I0 = σ.ids → B3.ro.isSome = true → SP P B3 body τ1 (fun e τ2 => e = .ret ∧ SPL P B2 ops r (AS.put ⟨σ.n, σ.slots, τ2.objs, τ2.ids⟩ o.dst (.v (.bool false))) Q))) →
  SPLX P B B2 ops (o :: r) σ Q
theorem putObj_twice {w : World} {l : Nat} {x y : Obj} : (w.putObj l x).putObj l y = w.putObj l y := by
 have : ((w.heap.setIfInBounds l x).setIfInBounds l y) = w.heap.setIfInBounds l y := by
  apply Array.ext_getElem?
  intro i
  by_cases e : l = i
  ·subst e; simp [Array.getElem?_setIfInBounds]
  ·simp [Array.getElem?_setIfInBounds, e]
 simp only [World.putObj, this]
theorem call_spX (hTT : TTok P TT) {f : FuncId} {fn : Func} {c : Code} (hf : P.funcs[f]? = some fn) (hb : fn.body = some c) (hro : B.ro = none) {G : Gh} {w : World} {vs : Array Value} {σ0 : AS} (hr : R (B.d []) G σ0 w { tmps := vs ++ Array.replicate (fn.ntmps - vs.size) undef, defers := [] }) {K : AV → AS → Prop}
  (h : SPX P B B2 c σ0 (fun e τ => (e = .normal ∨ e = .ret) ∧ ∃ av, retA TT τ fn.results.toList = some av ∧ K av τ)) : Calls P f vs w fun e w' => ∃ v G' τ av a', e = .returned v ∧ R (B2.d []) G' τ w' a' ∧ Rv G' av v ∧ K av τ := by
 refine (callsIn_wide (n := 0)).1 (callsIn_of_wp_marks (F := Fence.wide) hf hb trivial ?_)
 have h1 := h [] G w _ hr
 rw [hro, FR_none] at h1
 refine wpIn_mono h1 fun e a' w' hq => ?_
 obtain ⟨D, G', τ, hr', he, av, hav, hK⟩ := hq
 have hd : a'.defers = D.map mark := hr'.defers
 have := leaves_ok (B := B2) hTT hav (Rf := fun e w' => ∃ v G' τ av a', e = .returned v ∧ R (B2.d []) G' τ w' a' ∧ Rv G' av v ∧ K av τ) D G' w' a' hr' fun w2 v h2 h3 => ⟨v, G', τ, av, _, rfl, h2, h3, hK⟩
 rw [← hd] at this
 rcases he with rfl | rfl
 ·exact this
 ·exact this
theorem yield_out {l yk : Nat} {G1 : Gh} {σ1 : AS} {w1 : World} {a1 : Act} {D1 : List Nat} {B0 : Base} (h1 : R (B0.d D1) G1 σ1 w1 a1) {x0 : Nat × Nat × Nat} (hyk : G1.loc yk = some (some l, x0)) {n : Nat} {slots : List (Nat × AV)} {tmps : Array Value} (hts : tmps.size = n) (hsl : ∀ t av, lk slots t = some av → t < n ∧ Rv G1 av (tmps.getD t undef)) {ps : Array Tmp} (hps : ∀ t ∈ ps.toList, t < n) {assign body : Code} {fnid dd : Nat}
  (hrec : w1.heap[l]? = some (.loop { state := .ready, pending := none, fn := fnid, tmps := tmps, params := ps, assign := assign, body := body, defers := dd })) : YieldOut P (Base.sub G1 σ1 w1 none) { Base.sub G1 σ1 w1 none with w0 := w1.putObj l (.loop { state := .done, pending := some .ret, fn := fnid, tmps := tmps, params := ps, assign := assign, body := body, defers := dd }) } yk n slots ps assign body := by
 intro ops o r σ Q x args ts avs hd hw ho hx ha hlen hround D G w a hr
 have hnl : l ∉ blocks G1 σ1.objs := h1.not_block hrec (by simp)
 have hlt1 := (Array.getElem?_eq_some_iff.1 hrec).1
 have hle1 : G1.le G := ⟨fun b o u h => hr.heap.keep b o u h, fun k l h => hr.heap.fix k l h⟩
 have hrw : w.heap[l]? = some (.loop { state := .ready, pending := none, fn := fnid, tmps := tmps, params := ps, assign := assign, body := body, defers := dd }) := (hr.heap.old l hlt1 hnl).trans hrec
 have hlt : l < w.heap.size := (Array.getElem?_eq_some_iff.1 hrw).1
 unfold wpListIn
 rw [if_pos (wantA_ok hr hw)]
 have hxv := hr.ev hx
 have hxe : a.eval x = .func (.yield l) #[] #[] := by
  generalize a.eval x = v at hxv
  cases hxv with
  | yld k l' y hk =>
   have := hle1.loc _ _ hyk
   rw [hk] at this; cases this; rfl
 obtain ⟨e1, e2⟩ := hr.evs ha
 refine ⟨fun _ _ => trivial, ?_⟩
 have hop : (execOp a.eval o).run P w = .ok (.round l fnid ((ps.zip (args.map a.eval)).foldl (fun tmps (t, v) => tmps.setIfInBounds t v) tmps) assign body) w := by
  have hy := run_yield (P := P) (args := args.map a.eval) hrw (by
   have : avs.length = args.size := by simpa using e1
   simp; omega)
  unfold execOp
  rw [ho]
  simp only [resolve, hxe, Deferred.ofValue, invoke, Sem.run_bind, Sem.run_pure, Result.andThen_ok]
  simp [hy]
 rw [show (FR (Base.sub G1 σ1 w1 none).ro).round = none from rfl, Oper.semAt_eq none a.eval o (fun c hc => by rw [ho] at hc; cases hc), hop, Oper.uponIn_round]
 refine ⟨fun e => (by cases e), roundIn_of_wpIn (F := FR none) trivial ?_⟩
 -- the round's frame
 obtain ⟨f1, f2⟩ := setps_ok (G := G) ps.toList avs (args.toList.map a.eval) slots tmps hps (by simpa using e1.symm) e2 hts (fun t av ht => ⟨(hsl t av ht).1, (hsl t av ht).2.mono hle1⟩)
 have hfold : (ps.zip (args.map a.eval)).foldl (fun tmps (t, v) => tmps.setIfInBounds t v) tmps = (ps.toList.zip (args.toList.map a.eval)).foldl (fun tmps (p : Tmp × Value) => tmps.setIfInBounds p.1 p.2) tmps := by
  rw [← Array.foldl_toList]; simp
 rw [hfold]
 have hs1 := hr.sub (some l) (n := n) (slots := setps slots ps.toList avs) (a' := { tmps := (ps.toList.zip (args.toList.map a.eval)).foldl (fun tmps (p : Tmp × Value) => tmps.setIfInBounds p.1 p.2) tmps, defers := [] }) f1 f2 rfl
 have hnl2 : l ∉ blocks G σ.objs := hr.not_block hrw (by simp)
 refine wpIn_mono (hround (Base.sub G σ w (some l)) rfl rfl [] G w _ hs1) fun e a2 w2 hq => ?_
 obtain ⟨D2, G2, τ1, hr2, rfl, hbody⟩ := hq
 have hr2' := (hr2.heap.old l hlt hnl2).trans hrw
 refine ⟨_, run_beginRound hr2' rfl, ?_⟩
 have ht2 := hr2.turn (l := l) (o := .loop { state := .busy, pending := none, fn := fnid, tmps := tmps, params := ps, assign := assign, body := body, defers := dd }) hlt hr2' (by simp)
 refine wpIn_mono (hbody { Base.sub G σ w (some l) with w0 := w.putObj l (.loop { state := .busy, pending := none, fn := fnid, tmps := tmps, params := ps, assign := assign, body := body, defers := dd }) } rfl rfl D2 G2 _ a2 ht2) fun e a3 w3 hq => ?_
 obtain ⟨D3, G3, τ2, hr3, rfl, hrest⟩ := hq
 have hr3' : w3.heap[l]? = some (.loop { state := .busy, pending := none, fn := fnid, tmps := tmps, params := ps, assign := assign, body := body, defers := dd }) := (hr3.heap.old l (by show l < (w.putObj l _).heap.size; rw [World.putObj_size]; exact hlt) hnl2).trans (World.putObj_heap_same hlt)
 refine ⟨_, _, run_endRound (some .ret) hr3', ?_⟩
 have ht3 := hr3.turn (l := l) (o := .loop { state := .ready, pending := none, fn := fnid, tmps := tmps, params := ps, assign := assign, body := body, defers := dd }) (by show l < (w.putObj l _).heap.size; rw [World.putObj_size]; exact hlt) hr3' (by simp)
 have ht4 : R ((Base.sub G σ w (some l)).d D3) G3 τ2 (w3.putObj l (.loop { state := .ready, pending := none, fn := fnid, tmps := tmps, params := ps, assign := assign, body := body, defers := dd })) a3 := by
  have e := putObj_back (w := w) (l := l) (x := .loop { state := .busy, pending := none, fn := fnid, tmps := tmps, params := ps, assign := assign, body := body, defers := dd }) hrw
  have := ht3
  simp only [Base.d] at this ⊢
  rw [e] at this
  exact this
 obtain ⟨hle, hb'⟩ := hr.back ht4.dropD
 have hl6 : (w3.putObj l (.loop { state := .ready, pending := none, fn := fnid, tmps := tmps, params := ps, assign := assign, body := body, defers := dd })).heap[l]? = some (.loop { state := .ready, pending := none, fn := fnid, tmps := tmps, params := ps, assign := assign, body := body, defers := dd }) := World.putObj_heap_same (Array.getElem?_eq_some_iff.1 hr3').1
 have ht5 := hb'.turn (l := l) (o := (.loop { state := .done, pending := some .ret, fn := fnid, tmps := tmps, params := ps, assign := assign, body := body, defers := dd })) hlt1 hl6 (by simp)
 rw [putObj_twice] at ht5
 exact hrest D G3 _ _ (R.put (B := { (Base.sub G1 σ1 w1 none).d D with w0 := w1.putObj l (.loop { state := .done, pending := some .ret, fn := fnid, tmps := tmps, params := ps, assign := assign, body := body, defers := dd }) }) (a := a) ht5 (fun d hdd => R.dst (G := G) (w := w) (a := a) (σ := σ) hd d hdd) (.v (.bool false)))
theorem s_rangeX (hTT : TTok P TT) {g : Operand} {ps : Array Tmp} {assign body : Code} {f : FuncId} {fn : Func} {c : Code} {cs : List AV} (yk : Nat) (hy : yk ∉ σ.ids) (hro : B.ro = none) (hg : σ.callee g = some (f, cs)) (hfn : fnB P f = true) (hf : P.funcs[f]? = some fn) (hb : fn.body = some c) (hn : (AV.yld yk :: cs).length ≤ fn.ntmps) (hps : ∀ t ∈ ps.toList, t < σ.n)
  (h : ∀ B' B2 : Base, B'.I0 = yk :: σ.ids → B'.ro = none → B2.I0 = yk :: σ.ids → B2.ro = none → YieldOut P B' B2 yk σ.n σ.slots ps assign body → SPX P B' B2 c ⟨fn.ntmps, enumA 0 (.yld yk :: cs), σ.objs, yk :: σ.ids⟩ (fun e τ => (e = .normal ∨ e = .ret) ∧ ∃ av, retA TT τ fn.results.toList = some av ∧ Q .ret ⟨σ.n, σ.slots, τ.objs, τ.ids⟩)) :
  SP P B (.rangeFunc g ps assign body) σ Q := fun D G w a hr => by
 rw [hro]
 refine wpIn_rangeFunc fun fnid _ => ?_
 obtain ⟨W1, hW1⟩ : ∃ W1, (w.alloc (.deferred (some []))).alloc (.loop { state := .ready, pending := none, fn := fnid, tmps := a.tmps, params := ps, assign := assign, body := body, defers := w.heap.size }) = W1 := ⟨_, rfl⟩
 have hL1 : W1.heap[w.heap.size + 1]? = some (.loop { state := .ready, pending := none, fn := fnid, tmps := a.tmps, params := ps, assign := assign, body := body, defers := w.heap.size }) := by
  rw [← hW1]; have := World.alloc_heap_new (w.alloc (.deferred (some []))) (.loop { state := .ready, pending := none, fn := fnid, tmps := a.tmps, params := ps, assign := assign, body := body, defers := w.heap.size }); rwa [World.size_alloc] at this
 have hK1 : W1.heap[w.heap.size]? = some (.deferred (some [])) := by
  rw [← hW1]; exact (Below.heap_alloc _ _ _ (by simp)).trans (World.alloc_heap_new w _)
 have hb1 : Below w.heap.size w W1 := by
  rw [← hW1]; exact (((Below.refl _ w).alloc (Nat.le_refl _) _).alloc (by simp) _)
 obtain ⟨us, g1, g2, g3⟩ := callee_ok hr hg
 have hr1 := (hr.more hb1).name hy (some (w.heap.size + 1), 0, 0, 0)
 have hle1 : G.le (G.add yk (some (w.heap.size + 1), 0, 0, 0)) := Gh.add_le (hr.fresh hy)
 have hyk : (G.add yk (some (w.heap.size + 1), 0, 0, 0)).loc yk = some (some (w.heap.size + 1), 0, 0, 0) := Gh.add_self
 refine ⟨w.heap.size + 1, [mark w.heap.size], W1, { target := .fn (.func f) us.toArray, args := #[.func (.yield (w.heap.size + 1)) #[] #[]] }, W1, f, #[.func (.yield (w.heap.size + 1)) #[] #[]] ++ us.toArray, W1, ?_, ?_, fun _ _ => trivial, ?_, fun e => (by cases e), FR_calls.2 ?_⟩
 ·rw [← hW1]; exact run_enterLoop_outer _ _ _ _ _
 ·simp only [resolve, g1]
  simp [Deferred.ofValue, Act.eval]
 ·simp [invoke, run_callFunc hfn]
 ·have hY := yield_out (P := P) (B0 := B) (D1 := D) (l := w.heap.size + 1) (yk := yk) hr1 hyk (n := σ.n) (slots := σ.slots) (tmps := a.tmps) hr.n hr1.slot hps hL1
  have hs := hr1.sub none (n := fn.ntmps) (slots := enumA 0 (.yld yk :: cs)) (a' := { tmps := (#[Value.func (.yield (w.heap.size + 1)) #[] #[]] ++ us.toArray) ++ Array.replicate (fn.ntmps - (#[Value.func (.yield (w.heap.size + 1)) #[] #[]] ++ us.toArray).size) undef, defers := [] })
   (by simp only [Array.size_append, Array.size_replicate, List.size_toArray, List.length_cons, List.length_nil] at hn ⊢; omega)
   (entry_slots hn (by simp [g2]) (fun i hi => by
    cases i with
    | zero => simpa using Rv.yld yk (w.heap.size + 1) (0, 0, 0) hyk
    | succ i =>
     have := (g3 i (by simpa using hi)).mono hle1
     have e : (#[Value.func (.yield (w.heap.size + 1)) #[] #[]] ++ us.toArray).getD (i + 1) undef = us.getD i undef := by
      simp [Array.getD_eq_getD_getElem?, Array.getElem?_append, List.getD]
     rw [e]; simpa using this)) rfl
  refine (call_spX hTT hf hb rfl hs (K := fun _ τ => Q .ret ⟨σ.n, σ.slots, τ.objs, τ.ids⟩) (h (Base.sub (G.add yk (some (w.heap.size + 1), 0, 0, 0)) ⟨σ.n, σ.slots, σ.objs, yk :: σ.ids⟩ W1 none) _ rfl rfl rfl rfl hY)).mono fun e w' hq => ?_
  obtain ⟨v, G', τ, av, a', rfl, hr', hv, hK⟩ := hq
  have hs0 : w.heap.size + 1 < W1.heap.size := (Array.getElem?_eq_some_iff.1 hL1).1
  have hs0 : w.heap.size + 1 < W1.heap.size := (Array.getElem?_eq_some_iff.1 hL1).1
  have hL2 : w'.heap[w.heap.size + 1]? = some (.loop { state := .done, pending := some .ret, fn := fnid, tmps := a.tmps, params := ps, assign := assign, body := body, defers := w.heap.size }) := (hr'.heap.old (w.heap.size + 1) (by show _ < (W1.putObj _ _).heap.size; rw [World.putObj_size]; exact hs0) (hr1.not_block hL1 (by simp))).trans (World.putObj_heap_same hs0)
  have hK2 := ((hr'.heap.old w.heap.size (by show _ < (W1.putObj _ _).heap.size; rw [World.putObj_size]; omega) (hr1.not_block hK1 (by simp))).trans (World.putObj_heap_other (by omega))).trans hK1
  have hrb0 := hr'.turn (l := w.heap.size + 1) (o := (.loop { state := .ready, pending := none, fn := fnid, tmps := a.tmps, params := ps, assign := assign, body := body, defers := w.heap.size })) (by show _ < (W1.putObj _ _).heap.size; rw [World.putObj_size]; exact hs0) hL2 (by simp)
  have hrb : R ((Base.sub (G.add yk (some (w.heap.size + 1), 0, 0, 0)) ⟨σ.n, σ.slots, σ.objs, yk :: σ.ids⟩ W1 none).d []) G' τ (w'.putObj (w.heap.size + 1) (.loop { state := .ready, pending := none, fn := fnid, tmps := a.tmps, params := ps, assign := assign, body := body, defers := w.heap.size })) a' := by
   have e := putObj_back (w := W1) (l := w.heap.size + 1) (x := (.loop { state := .done, pending := some .ret, fn := fnid, tmps := a.tmps, params := ps, assign := assign, body := body, defers := w.heap.size })) hL1
   have := hrb0
   simp only [Base.d] at this ⊢
   rw [e] at this
   exact this
  obtain ⟨hle, hb'⟩ := hr1.back hrb
  have hsz : B.w0.heap.size ≤ w.heap.size := hr.heap.size
  have hDlt : ∀ q ∈ D, q < w.heap.size := fun q hq => (Array.getElem?_eq_some_iff.1 (hr.heap.pin q hq).1).1
  refine ⟨some .ret, _, run_endLoop hL2 (by simp), wpIn_ret ⟨w.heap.size :: D, G', ⟨σ.n, σ.slots, τ.objs, τ.ids⟩, ?_, hK⟩⟩
  have hl7 : (w'.putObj (w.heap.size + 1) (.loop { state := .ready, pending := none, fn := fnid, tmps := a.tmps, params := ps, assign := assign, body := body, defers := w.heap.size })).heap[w.heap.size + 1]? = some (.loop { state := .ready, pending := none, fn := fnid, tmps := a.tmps, params := ps, assign := assign, body := body, defers := w.heap.size }) := World.putObj_heap_same (Array.getElem?_eq_some_iff.1 hL2).1
  have ht := hb'.turnNew (l := w.heap.size + 1) (o := (.loop { state := .exhausted, pending := some .ret, fn := fnid, tmps := a.tmps, params := ps, assign := assign, body := body, defers := w.heap.size })) (by show B.w0.heap.size ≤ _; omega) (fun hin => by have := hDlt _ hin; omega) hl7 (by simp)
  rw [putObj_twice] at ht
  exact ht.pinNew hsz (fun hin => by have := hDlt _ hin; omega) ((World.putObj_heap_other (by omega)).trans hK2)
end sub
end Go.Proofs.YtecdhmiamlgibaaDoor
