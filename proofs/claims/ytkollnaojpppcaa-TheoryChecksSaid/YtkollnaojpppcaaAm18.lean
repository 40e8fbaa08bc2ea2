/- An abstract machine for the text, part eighteen: calls that write what the caller holds; loops over functions; plain lemmas over any program; no condition. -/
import Derived.Test.YtkollnaojpppcaaAm17
namespace Go.Proofs.Ytkollnaojpppcaa
open Go.RowKit

section sub
variable {P : Program} {TT : TTab} {PT : PTab} {B : Base} {G : Gh} {σ : AS} {w : World} {a : Act}
/-- The blocks of objects. -/
def blocks (G : Gh) (objs : List (Nat × AObj)) : List Nat := objs.filterMap fun p => match G.loc p.1 with
  | some (some b, _) => some b
  | _ => none
theorem mem_blocks {G : Gh} {objs : List (Nat × AObj)} {b : Nat} : b ∈ blocks G objs ↔ ∃ k ob x, lk objs k = some ob ∧ G.loc k = some (some b, x) := by
  unfold blocks
  rw [List.mem_filterMap]
  constructor
  · rintro ⟨⟨k, ob⟩, h1, h2⟩
    obtain ⟨y, hy⟩ := lk_mem h1
    refine ⟨k, y, ?_⟩
    simp only at h2
    split at h2
    · rename_i b' x hl; cases h2; exact ⟨x, hy, hl⟩
    · cases h2
  · rintro ⟨k, ob, x, h1, h2⟩
    exact ⟨(k, ob), mem_lk h1, by simp only [h2]⟩
/-- From here on: all that is held is lent, all names stay. -/
def Base.sub (G : Gh) (σ : AS) (w : World) (ro : Option Nat) : Base := { w0 := w, S0 := G.S, bs := blocks G σ.objs, L0 := G.loc, I0 := σ.ids, D := [], ro := ro }
/-- Blocks of objects are cells. -/
theorem R.isCells (hr : R B G σ w a) {k : Nat} {ob : AObj} (hk : lk σ.objs k = some ob) {b : Nat} {x : Nat × Nat × Nat} (hl : G.loc k = some (some b, x)) : ∃ vs, w.heap[b]? = some (.cells vs ob.t (0, 0)) := by
  obtain ⟨blk, base, cap, h1, _, _, _, h5⟩ := hr.heap.obj k ob hk
  rw [hl] at h1
  cases h1
  obtain ⟨vs, h6, _⟩ := h5
  exact ⟨vs, h6⟩
theorem R.not_block (hr : R B G σ w a) {l : Nat} {o : Obj} (hl : w.heap[l]? = some o) (ho : ∀ c t f, o ≠ .cells c t f) : l ∉ blocks G σ.objs := fun hb => by
  obtain ⟨k, ob, x, h1, h2⟩ := mem_blocks.1 hb
  obtain ⟨vs, h3⟩ := hr.isCells h1 h2
  rw [hl] at h3
  cases h3
  exact ho _ _ _ rfl
theorem R.sub (hr : R B G σ w a) (ro : Option Nat) {n : Nat} {slots : List (Nat × AV)} {a' : Act} (hn : a'.tmps.size = n) (hs : ∀ t av, lk slots t = some av → t < n ∧ Rv G av (a'.tmps.getD t undef)) (hd : a'.defers = []) :
    R ((Base.sub G σ w ro).d []) G ⟨n, slots, σ.objs, σ.ids⟩ w a' := by
  have hh := hr.heap
  exact ⟨hn, hs, hd, ⟨rfl, rfl, rfl, Nat.le_refl _, fun _ _ _ => rfl, hh.obj, fun k o hk b base cap sz hl => .inr (mem_blocks.2 ⟨k, o, _, hk, hl⟩), hh.inj, hh.st, hh.sep, fun b o u h => .inl h, fun b o u h => h, fun k l h => h, fun r hr => (by cases hr), ⟨List.nodup_nil, fun k l h => hr.ids k (by
    have h' : G.loc k = some l := h
    rw [h']; simp)⟩⟩, hr.ids⟩
theorem R.back (hr : R B G σ w a) {ro : Option Nat} {τ : AS} {G2 : Gh} {w2 : World} {a2 : Act} (h2 : R ((Base.sub G σ w ro).d []) G2 τ w2 a2) : G.le G2 ∧ R B G2 ⟨σ.n, σ.slots, τ.objs, τ.ids⟩ w2 a := by
  have hh := hr.heap
  have hk := h2.heap
  have hle : G.le G2 := ⟨fun b o u h => hk.keep b o u h, fun k l h => hk.fix k l h⟩
  refine ⟨hle, hr.n, fun t av ht => ⟨(hr.slot t av ht).1, (hr.slot t av ht).2.mono hle⟩, hr.defers, ⟨hk.os.trans hh.os, hk.tape.trans hh.tape, hk.output.trans hh.output, Nat.le_trans hh.size hk.size, fun b hb hn => ?_, hk.obj, fun k o hko b base cap sz hl => ?_, hk.inj, hk.st, hk.sep, fun b o u hs => ?_, fun b o u hs => hk.keep b o u (hh.keep b o u hs), fun k l h => hk.fix k l (hh.fix k l h), fun r hrD => ?_, hh.base⟩, h2.ids⟩
  · rw [← hh.old b hb hn]
    refine hk.old b (Nat.lt_of_lt_of_le hb hh.size) fun hbb => ?_
    obtain ⟨k, ob, x, h1, h3⟩ := mem_blocks.1 hbb
    rcases hh.own k ob h1 _ _ _ _ h3 with h | h
    · omega
    · exact hn h
  · rcases hk.own k o hko b base cap sz hl with h | h
    · exact .inl (Nat.le_trans hh.size h)
    · obtain ⟨k', ob, x, h1, h3⟩ := mem_blocks.1 h
      exact hh.own k' ob h1 _ _ _ _ h3
  · rcases hk.fresh b o u hs with h | h | h
    · exact hh.fresh b o u h
    · exact .inr (.inl (Nat.le_trans hh.size h))
    · obtain ⟨k', ob, x, h1, h3⟩ := mem_blocks.1 h
      exact .inr (hh.own k' ob h1 _ _ _ _ h3)
  · obtain ⟨h1, h3⟩ := hh.pin r hrD
    refine ⟨?_, h3⟩
    rw [← h1]
    exact hk.old r (Array.getElem?_eq_some_iff.1 h1).1 (hr.not_block h1 (by simp))
/-- Marks are forgotten. -/
theorem R.dropD {D : List Nat} (hr : R (B.d D) G σ w a) : R (B.d []) G σ w { a with defers := [] } := by
  have hh := hr.heap
  exact ⟨hr.n, hr.slot, rfl, ⟨hh.os, hh.tape, hh.output, hh.size, hh.old, hh.obj, hh.own, hh.inj, hh.st, hh.sep, hh.fresh, hh.keep, hh.fix, fun r hr => (by cases hr), ⟨List.nodup_nil, hh.base.2⟩⟩, hr.ids⟩
/-- An old block that is no cells turns, here and in the base. -/
theorem R.turn (hr : R B G σ w a) {l : Nat} {o o' : Obj} (hlt : l < B.w0.heap.size) (hl : w.heap[l]? = some o') (ho : ∀ c t f, o' ≠ .cells c t f) : R { B with w0 := B.w0.putObj l o } G σ (w.putObj l o) a := by
  have hh := hr.heap
  have hoth : ∀ b, b ≠ l → (w.putObj l o).heap[b]? = w.heap[b]? := fun b hb => World.putObj_heap_other hb
  have hlw := (Array.getElem?_eq_some_iff.1 hl).1
  refine ⟨hr.n, hr.slot, hr.defers, ⟨hh.os, hh.tape, hh.output, by simpa using hh.size, fun b hb hn => ?_, fun k ob hk => (hh.obj k ob hk).mono (Gh.le.refl G) fun b base cap sz hlo => hoth b fun e => ?_, fun k ob hk b base cap sz hlo => ?_, hh.inj, fun b p u hs => ?_, hh.sep, fun b p u hs => ?_, hh.keep, hh.fix, fun r hrD => ?_, hh.base⟩, hr.ids⟩
  · show (w.putObj l o).heap[b]? = (B.w0.putObj l o).heap[b]?
    by_cases e : b = l
    · subst e; rw [World.putObj_heap_same hlw, World.putObj_heap_same hlt]
    · rw [hoth b e, World.putObj_heap_other e]
      exact hh.old b (by simpa using hb) hn
  · subst e
    obtain ⟨vs, h1⟩ := hr.isCells hk hlo
    rw [hl] at h1; cases h1; exact ho _ _ _ rfl
  · show (B.w0.putObj l o).heap.size ≤ b ∨ _
    rw [World.putObj_size]; exact hh.own k ob hk b base cap sz hlo
  · have h1 := hh.st b p u hs
    have hne : b ≠ l := fun e => by
      subst e
      unfold World.cell? at h1
      split at h1
      · rename_i h3; rw [hl] at h3; cases h3; exact ho _ _ _ rfl
      · cases h1
    rw [← h1]; exact World.cell?_of_block (hoth b hne)
  · show _ ∨ (B.w0.putObj l o).heap.size ≤ b ∨ _
    rw [World.putObj_size]; exact hh.fresh b p u hs
  · obtain ⟨h1, h2⟩ := hh.pin r hrD
    refine ⟨?_, by show (B.w0.putObj l o).heap.size ≤ r; rw [World.putObj_size]; exact h2⟩
    rw [hoth r (by omega)]; exact h1
/-- A new block that is no cells turns. -/
theorem R.turnNew (hr : R B G σ w a) {l : Nat} {o o' : Obj} (hge : B.w0.heap.size ≤ l) (hD : l ∉ B.D) (hl : w.heap[l]? = some o') (ho : ∀ c t f, o' ≠ .cells c t f) : R B G σ (w.putObj l o) a := by
  have hh := hr.heap
  have hoth : ∀ b, b ≠ l → (w.putObj l o).heap[b]? = w.heap[b]? := fun b hb => World.putObj_heap_other hb
  refine ⟨hr.n, hr.slot, hr.defers, ⟨hh.os, hh.tape, hh.output, by simpa using hh.size, fun b hb hn => ?_, fun k ob hk => (hh.obj k ob hk).mono (Gh.le.refl G) fun b base cap sz hlo => hoth b fun e => ?_, hh.own, hh.inj, fun b p u hs => ?_, hh.sep, hh.fresh, hh.keep, hh.fix, fun r hrD => ?_, hh.base⟩, hr.ids⟩
  · rw [hoth b (by omega)]; exact hh.old b hb hn
  · subst e
    obtain ⟨vs, h1⟩ := hr.isCells hk hlo
    rw [hl] at h1; cases h1; exact ho _ _ _ rfl
  · have h1 := hh.st b p u hs
    have hne : b ≠ l := fun e => by
      subst e
      unfold World.cell? at h1
      split at h1
      · rename_i h3; rw [hl] at h3; cases h3; exact ho _ _ _ rfl
      · cases h1
    rw [← h1]; exact World.cell?_of_block (hoth b hne)
  · obtain ⟨h1, h2⟩ := hh.pin r hrD
    exact ⟨(hoth r (fun e => hD (e ▸ hrD))).trans h1, h2⟩
/-- A mark more. -/
theorem R.pinNew {r : Nat} {D : List Nat} (hr : R (B.d D) G σ w a) (hge : B.w0.heap.size ≤ r) (hD : r ∉ D) (hl : w.heap[r]? = some (.deferred (some []))) : R (B.d (r :: D)) G σ w { a with defers := mark r :: a.defers } := by
  have hh := hr.heap
  refine ⟨hr.n, hr.slot, by show mark r :: a.defers = mark r :: D.map mark; rw [hr.defers]; rfl, ⟨hh.os, hh.tape, hh.output, hh.size, hh.old, hh.obj, hh.own, hh.inj, hh.st, hh.sep, hh.fresh, hh.keep, hh.fix, fun q hq => ?_, ⟨List.nodup_cons.2 ⟨hD, hh.base.1⟩, hh.base.2⟩⟩, hr.ids⟩
  rcases List.mem_cons.1 hq with rfl | hq
  · exact ⟨hl, hge⟩
  · exact hh.pin q hq
/-- A name more. -/
theorem R.name (hr : R B G σ w a) {yk : Nat} (hy : yk ∉ σ.ids) (x : Option Nat × Nat × Nat × Nat) : R B (G.add yk x) ⟨σ.n, σ.slots, σ.objs, yk :: σ.ids⟩ w a := by
  have hn := hr.fresh hy
  have hle : G.le (G.add yk x) := Gh.add_le hn
  have hh := hr.heap
  have hloc : ∀ k ob l, lk σ.objs k = some ob → (G.add yk x).loc k = some l → G.loc k = some l := fun k ob l hk hl => by
    obtain ⟨blk, base, cap, h1, _⟩ := hh.obj k ob hk
    have : k ≠ yk := fun e => by rw [e, hn] at h1; cases h1
    have h2 : (G.add yk x).loc k = G.loc k := if_neg this
    rw [h2] at hl; exact hl
  refine ⟨hr.n, fun t av ht => ⟨(hr.slot t av ht).1, (hr.slot t av ht).2.mono hle⟩, hr.defers, ⟨hh.os, hh.tape, hh.output, hh.size, hh.old, fun k ob hk => (hh.obj k ob hk).mono hle fun _ _ _ _ _ => rfl, fun k ob hk b base cap sz hl => hh.own k ob hk b base cap sz (hloc k ob _ hk hl), fun k k' ob ob' hk hk' b y z hl hl' => hh.inj k k' ob ob' hk hk' b y z (hloc k ob _ hk hl) (hloc k' ob' _ hk' hl'), hh.st, fun k ob hk b y hl => hh.sep k ob hk b y (hloc k ob _ hk hl), hh.fresh, hh.keep, fun k l h => hle.loc _ _ (hh.fix k l h), hh.pin, hh.base⟩, fun k hk => ?_⟩
  by_cases e : k = yk
  · subst e; exact List.mem_cons_self
  · have h2 : (G.add yk x).loc k = G.loc k := if_neg e
    rw [h2] at hk
    exact List.mem_cons_of_mem _ (hr.ids k hk)
/-- Memory is made beside. -/
theorem R.more (hr : R B G σ w a) {w' : World} (hb : Below w.heap.size w w') : R B G σ w' a :=
  (hr.after (S' := G.S) hb (fun _ _ _ h => h) (fun b p u h => by
    have := hr.heap.st b p u h
    exact (hb.cell (World.block_lt_of_cell? _ _ this)).trans this) (fun _ _ _ h => .inl h)).2

variable {Q : Exit → AS → Prop} {ops : Array Oper}
/-- A call: the body runs on what the caller holds. -/
theorem spl_call (hTT : TTok P TT) {o : Oper} {r : List Oper} {x : Operand} {args : Array Operand} {ts : Array TypeId} {f : FuncId} {fn : Func} {c : Code} {avs cs : List AV} (hd : dstOk σ o = true) (hw : wantA σ ops o = some true) (ho : o.op = .call { callee := .value x, args := args, argTypes := ts })
    (hfn : fnB P f = true) (hf : P.funcs[f]? = some fn) (hb : fn.body = some c) (hx : σ.callee x = some (f, cs)) (ha : σ.evs args.toList = some avs) (hn : (avs ++ cs).length ≤ fn.ntmps)
    (h : ∀ B' : Base, B'.I0 = σ.ids → B'.ro = none → SP P B' c ⟨fn.ntmps, enumA 0 (avs ++ cs), σ.objs, σ.ids⟩ (fun e τ => (e = .normal ∨ e = .ret) ∧ ∃ av, retA TT τ fn.results.toList = some av ∧ SPL P B ops r (AS.put ⟨σ.n, σ.slots, τ.objs, τ.ids⟩ o.dst av) Q)) :
    SPL P B ops (o :: r) σ Q := fun D G w a hr => by
  unfold wpListIn
  rw [if_pos (wantA_ok hr hw)]
  obtain ⟨argv, hop, h1, h2⟩ := enters_ok ho hfn hx ha (B.d D) G w a hr
  refine ⟨fun _ _ => trivial, ?_⟩
  rw [show (FR B.ro).round = B.ro from rfl, Oper.semAt_eq B.ro a.eval o (fun c hc => by rw [ho] at hc; cases hc), hop, Oper.uponIn_enter]
  refine ⟨fun e => (by cases e), FR_calls.2 ?_⟩
  have hs := hr.sub none (n := fn.ntmps) (slots := enumA 0 (avs ++ cs)) (a' := { tmps := argv ++ Array.replicate (fn.ntmps - argv.size) undef, defers := [] }) (by simp; omega) (entry_slots hn h1 h2) rfl
  refine (call_sp hTT hf hb rfl hs (K := fun av τ => SPL P B ops r (AS.put ⟨σ.n, σ.slots, τ.objs, τ.ids⟩ o.dst av) Q) (h (Base.sub G σ w none) rfl rfl)).mono fun e w' hq => ?_
  obtain ⟨v, G', τ, av, a', rfl, hr', hv, hK⟩ := hq
  obtain ⟨hle, hb'⟩ := hr.back hr'
  exact hK D G' w' _ (hb'.put (fun d hdd => R.dst (G := G) (w := w) (a := a) (σ := σ) hd d hdd) hv)

/-! ### Loops over functions -/
/-- The round's parameters. -/
def setps (slots : List (Nat × AV)) : List Tmp → List AV → List (Nat × AV)
  | t :: ts, v :: vs => setps (st slots t v) ts vs
  | _, _ => slots
theorem setps_ok {G : Gh} {n : Nat} : ∀ (ps : List Tmp) (vs : List AV) (us : List Value) (slots : List (Nat × AV)) (tmps : Array Value), (∀ t ∈ ps, t < n) → us.length = vs.length → (∀ i, i < vs.length → Rv G (vs.getD i .any) (us.getD i undef)) → tmps.size = n →
    (∀ t av, lk slots t = some av → t < n ∧ Rv G av (tmps.getD t undef)) → ((ps.zip us).foldl (fun tmps (p : Tmp × Value) => tmps.setIfInBounds p.1 p.2) tmps).size = n ∧ ∀ t av, lk (setps slots ps vs) t = some av → t < n ∧ Rv G av (((ps.zip us).foldl (fun tmps (p : Tmp × Value) => tmps.setIfInBounds p.1 p.2) tmps).getD t undef)
  | [], vs, us, slots, tmps, _, _, _, hs, h => by
    simp only [setps, List.zip_nil_left, List.foldl_nil]; exact ⟨hs, h⟩
  | t :: ts, [], us, slots, tmps, _, hl, _, hs, h => by
    have : us = [] := List.eq_nil_of_length_eq_zero hl
    subst this
    simp only [setps, List.zip_nil_right, List.foldl_nil]; exact ⟨hs, h⟩
  | t :: ts, v :: vs, [], slots, tmps, _, hl, _, hs, h => by simp at hl
  | t :: ts, v :: vs, u :: us, slots, tmps, hp, hl, hv, hs, h => by
    refine setps_ok ts vs us (st slots t v) (tmps.setIfInBounds t u) (fun q hq => hp q (List.mem_cons_of_mem _ hq)) (by simpa using hl) (fun i hi => by simpa using hv (i + 1) (by simpa using hi)) (by simpa using hs) fun q av hq => ?_
    rw [lk_st] at hq
    split at hq
    · rename_i e; subst e; cases hq
      have := hp t (by simp)
      refine ⟨this, ?_⟩
      have h0 := hv 0 (by simp)
      simpa [Array.getD_eq_getD_getElem?, Array.getElem?_setIfInBounds, Nat.lt_of_lt_of_eq this hs.symm] using h0
    · rename_i e
      obtain ⟨h1, h2⟩ := h q av hq
      refine ⟨h1, ?_⟩
      simpa [Array.getD_eq_getD_getElem?, Array.getElem?_setIfInBounds, e] using h2
/-- What a call of yield does. -/
def YieldOk (P : Program) (B : Base) (yk n : Nat) (slots : List (Nat × AV)) (ps : Array Tmp) (assign body : Code) : Prop :=
  ∀ (ops : Array Oper) (o : Oper) (r : List Oper) (σ : AS) (Q : Exit → AS → Prop) (x : Operand) (args : Array Operand) (ts : Array TypeId) (avs : List AV),
    dstOk σ o = true → wantA σ ops o = some true → o.op = .call { callee := .value x, args := args, argTypes := ts } → σ.ev x = some (.yld yk) → σ.evs args.toList = some avs → avs.length = ps.size →
    (∀ B1 : Base, B1.I0 = σ.ids → B1.ro.isSome = true → SP P B1 assign ⟨n, setps slots ps.toList avs, σ.objs, σ.ids⟩ (fun e τ1 => e = .normal ∧ ∀ B2 : Base, B2.I0 = σ.ids → B2.ro.isSome = true → SP P B2 body τ1 (fun e τ2 => e = .normal ∧ SPL P B ops r (AS.put ⟨σ.n, σ.slots, τ2.objs, τ2.ids⟩ o.dst (.v (.bool true))) Q))) →
    SPL P B ops (o :: r) σ Q

theorem putObj_back {w : World} {l : Nat} {x y : Obj} (h : w.heap[l]? = some y) : (w.putObj l x).putObj l y = w := by
  have hlt := (Array.getElem?_eq_some_iff.1 h).1
  have : ((w.heap.setIfInBounds l x).setIfInBounds l y) = w.heap := by
    apply Array.ext_getElem?
    intro i
    by_cases e : l = i
    · subst e
      have := (Array.getElem?_eq_some_iff.1 h).2
      simp [h, hlt, this]
    · simp [Array.getElem?_setIfInBounds, e]
  simp only [World.putObj, this]

theorem yield_ok {l yk : Nat} {G1 : Gh} {σ1 : AS} {w1 : World} {a1 : Act} {D1 : List Nat} {B0 : Base} (h1 : R (B0.d D1) G1 σ1 w1 a1) {x0 : Nat × Nat × Nat} (hyk : G1.loc yk = some (some l, x0)) {n : Nat} {slots : List (Nat × AV)} {tmps : Array Value} (hts : tmps.size = n) (hsl : ∀ t av, lk slots t = some av → t < n ∧ Rv G1 av (tmps.getD t undef)) {ps : Array Tmp} (hps : ∀ t ∈ ps.toList, t < n) {assign body : Code} {fnid dd : Nat}
    (hrec : w1.heap[l]? = some (.loop { state := .ready, pending := none, fn := fnid, tmps := tmps, params := ps, assign := assign, body := body, defers := dd })) : YieldOk P (Base.sub G1 σ1 w1 none) yk n slots ps assign body := by
  intro ops o r σ Q x args ts avs hd hw ho hx ha hlen hround D G w a hr
  have hnl : l ∉ blocks G1 σ1.objs := h1.not_block hrec (by simp)
  have hlt1 := (Array.getElem?_eq_some_iff.1 hrec).1
  have hle1 : G1.le G := ⟨fun b o u h => hr.heap.keep b o u h, fun k l h => hr.heap.fix k l h⟩
  have hrw : w.heap[l]? = some (.loop { state := .ready, pending := none, fn := fnid, tmps := tmps, params := ps, assign := assign, body := body, defers := dd }) := (hr.heap.old l hlt1 hnl).trans hrec
  have hlt : l < w.heap.size := (Array.getElem?_eq_some_iff.1 hrw).1
  unfold wpListIn
  rw [if_pos (wantA_ok hr hw)]
  have hxv := hr.ev hx
  have hxe : a.eval x = .func (.yield l) #[] #[] := by
    generalize a.eval x = v at hxv
    cases hxv with
    | yld k l' y hk =>
      have := hle1.loc _ _ hyk
      rw [hk] at this; cases this; rfl
  obtain ⟨e1, e2⟩ := hr.evs ha
  refine ⟨fun _ _ => trivial, ?_⟩
  have hop : (execOp a.eval o).run P w = .ok (.round l fnid ((ps.zip (args.map a.eval)).foldl (fun tmps (t, v) => tmps.setIfInBounds t v) tmps) assign body) w := by
    have hy := run_yield (P := P) (args := args.map a.eval) hrw (by
      have : avs.length = args.size := by simpa using e1
      simp; omega)
    unfold execOp
    rw [ho]
    simp only [resolve, hxe, Deferred.ofValue, invoke, Sem.run_bind, Sem.run_pure, Result.andThen_ok]
    simp [hy]
  rw [show (FR (Base.sub G1 σ1 w1 none).ro).round = none from rfl, Oper.semAt_eq none a.eval o (fun c hc => by rw [ho] at hc; cases hc), hop, Oper.uponIn_round]
  refine ⟨fun e => (by cases e), roundIn_of_wpIn (F := FR none) trivial ?_⟩
  -- the round's frame
  obtain ⟨f1, f2⟩ := setps_ok (G := G) ps.toList avs (args.toList.map a.eval) slots tmps hps (by simpa using e1.symm) e2 hts (fun t av ht => ⟨(hsl t av ht).1, (hsl t av ht).2.mono hle1⟩)
  have hfold : (ps.zip (args.map a.eval)).foldl (fun tmps (t, v) => tmps.setIfInBounds t v) tmps = (ps.toList.zip (args.toList.map a.eval)).foldl (fun tmps (p : Tmp × Value) => tmps.setIfInBounds p.1 p.2) tmps := by
    rw [← Array.foldl_toList]; simp
  rw [hfold]
  have hs1 := hr.sub (some l) (n := n) (slots := setps slots ps.toList avs) (a' := { tmps := (ps.toList.zip (args.toList.map a.eval)).foldl (fun tmps (p : Tmp × Value) => tmps.setIfInBounds p.1 p.2) tmps, defers := [] }) f1 f2 rfl
  have hnl2 : l ∉ blocks G σ.objs := hr.not_block hrw (by simp)
  refine wpIn_mono (hround (Base.sub G σ w (some l)) rfl rfl [] G w _ hs1) fun e a2 w2 hq => ?_
  obtain ⟨D2, G2, τ1, hr2, rfl, hbody⟩ := hq
  have hr2' := (hr2.heap.old l hlt hnl2).trans hrw
  refine ⟨_, run_beginRound hr2' rfl, ?_⟩
  have ht2 := hr2.turn (l := l) (o := .loop { state := .busy, pending := none, fn := fnid, tmps := tmps, params := ps, assign := assign, body := body, defers := dd }) hlt hr2' (by simp)
  refine wpIn_mono (hbody { Base.sub G σ w (some l) with w0 := w.putObj l (.loop { state := .busy, pending := none, fn := fnid, tmps := tmps, params := ps, assign := assign, body := body, defers := dd }) } rfl rfl D2 G2 _ a2 ht2) fun e a3 w3 hq => ?_
  obtain ⟨D3, G3, τ2, hr3, rfl, hrest⟩ := hq
  have hr3' : w3.heap[l]? = some (.loop { state := .busy, pending := none, fn := fnid, tmps := tmps, params := ps, assign := assign, body := body, defers := dd }) := (hr3.heap.old l (by show l < (w.putObj l _).heap.size; rw [World.putObj_size]; exact hlt) hnl2).trans (World.putObj_heap_same hlt)
  refine ⟨_, _, run_endRound none hr3', ?_⟩
  have ht3 := hr3.turn (l := l) (o := .loop { state := .ready, pending := none, fn := fnid, tmps := tmps, params := ps, assign := assign, body := body, defers := dd }) (by show l < (w.putObj l _).heap.size; rw [World.putObj_size]; exact hlt) hr3' (by simp)
  have ht4 : R ((Base.sub G σ w (some l)).d D3) G3 τ2 (w3.putObj l (.loop { state := .ready, pending := none, fn := fnid, tmps := tmps, params := ps, assign := assign, body := body, defers := dd })) a3 := by
    have e := putObj_back (w := w) (l := l) (x := .loop { state := .busy, pending := none, fn := fnid, tmps := tmps, params := ps, assign := assign, body := body, defers := dd }) hrw
    have := ht3
    simp only [Base.d] at this ⊢
    rw [e] at this
    exact this
  obtain ⟨hle, hb'⟩ := hr.back ht4.dropD
  exact hrest D G3 _ _ (hb'.put (fun d hdd => R.dst (G := G) (w := w) (a := a) (σ := σ) hd d hdd) (.v (.bool true)))

/-- A loop over a function, whose rounds all go on. -/
theorem s_range (hTT : TTok P TT) {g : Operand} {ps : Array Tmp} {assign body : Code} {f : FuncId} {fn : Func} {c : Code} {cs : List AV} (yk : Nat) (hy : yk ∉ σ.ids) (hro : B.ro = none) (hg : σ.callee g = some (f, cs)) (hfn : fnB P f = true) (hf : P.funcs[f]? = some fn) (hb : fn.body = some c) (hn : (AV.yld yk :: cs).length ≤ fn.ntmps) (hps : ∀ t ∈ ps.toList, t < σ.n)
    (h : ∀ B' : Base, B'.I0 = yk :: σ.ids → B'.ro = none → YieldOk P B' yk σ.n σ.slots ps assign body → SP P B' c ⟨fn.ntmps, enumA 0 (.yld yk :: cs), σ.objs, yk :: σ.ids⟩ (fun e τ => (e = .normal ∨ e = .ret) ∧ ∃ av, retA TT τ fn.results.toList = some av ∧ Q .normal ⟨σ.n, σ.slots, τ.objs, τ.ids⟩)) :
    SP P B (.rangeFunc g ps assign body) σ Q := fun D G w a hr => by
  rw [hro]
  refine wpIn_rangeFunc fun fnid _ => ?_
  obtain ⟨W1, hW1⟩ : ∃ W1, (w.alloc (.deferred (some []))).alloc (.loop { state := .ready, pending := none, fn := fnid, tmps := a.tmps, params := ps, assign := assign, body := body, defers := w.heap.size }) = W1 := ⟨_, rfl⟩
  have hL1 : W1.heap[w.heap.size + 1]? = some (.loop { state := .ready, pending := none, fn := fnid, tmps := a.tmps, params := ps, assign := assign, body := body, defers := w.heap.size }) := by
    rw [← hW1]; have := World.alloc_heap_new (w.alloc (.deferred (some []))) (.loop { state := .ready, pending := none, fn := fnid, tmps := a.tmps, params := ps, assign := assign, body := body, defers := w.heap.size }); rwa [World.size_alloc] at this
  have hK1 : W1.heap[w.heap.size]? = some (.deferred (some [])) := by
    rw [← hW1]; exact (Below.heap_alloc _ _ _ (by simp)).trans (World.alloc_heap_new w _)
  have hb1 : Below w.heap.size w W1 := by
    rw [← hW1]; exact (((Below.refl _ w).alloc (Nat.le_refl _) _).alloc (by simp) _)
  obtain ⟨us, g1, g2, g3⟩ := callee_ok hr hg
  have hr1 := (hr.more hb1).name hy (some (w.heap.size + 1), 0, 0, 0)
  have hle1 : G.le (G.add yk (some (w.heap.size + 1), 0, 0, 0)) := Gh.add_le (hr.fresh hy)
  have hyk : (G.add yk (some (w.heap.size + 1), 0, 0, 0)).loc yk = some (some (w.heap.size + 1), 0, 0, 0) := Gh.add_self
  refine ⟨w.heap.size + 1, [mark w.heap.size], W1, { target := .fn (.func f) us.toArray, args := #[.func (.yield (w.heap.size + 1)) #[] #[]] }, W1, f, #[.func (.yield (w.heap.size + 1)) #[] #[]] ++ us.toArray, W1, ?_, ?_, fun _ _ => trivial, ?_, fun e => (by cases e), FR_calls.2 ?_⟩
  · rw [← hW1]; exact run_enterLoop_outer _ _ _ _ _
  · simp only [resolve, g1]
    simp [Deferred.ofValue, Act.eval]
  · simp [invoke, run_callFunc hfn]
  · have hY := yield_ok (P := P) (B0 := B) (D1 := D) (l := w.heap.size + 1) (yk := yk) hr1 hyk (n := σ.n) (slots := σ.slots) (tmps := a.tmps) hr.n hr1.slot hps hL1
    have hs := hr1.sub none (n := fn.ntmps) (slots := enumA 0 (.yld yk :: cs)) (a' := { tmps := (#[Value.func (.yield (w.heap.size + 1)) #[] #[]] ++ us.toArray) ++ Array.replicate (fn.ntmps - (#[Value.func (.yield (w.heap.size + 1)) #[] #[]] ++ us.toArray).size) undef, defers := [] })
      (by simp only [Array.size_append, Array.size_replicate, List.size_toArray, List.length_cons, List.length_nil] at hn ⊢; omega)
      (entry_slots hn (by simp [g2]) (fun i hi => by
        cases i with
        | zero => simpa using Rv.yld yk (w.heap.size + 1) (0, 0, 0) hyk
        | succ i =>
          have := (g3 i (by simpa using hi)).mono hle1
          have e : (#[Value.func (.yield (w.heap.size + 1)) #[] #[]] ++ us.toArray).getD (i + 1) undef = us.getD i undef := by
            simp [Array.getD_eq_getD_getElem?, Array.getElem?_append, List.getD]
          rw [e]; simpa using this)) rfl
    refine (call_sp hTT hf hb rfl hs (K := fun _ τ => Q .normal ⟨σ.n, σ.slots, τ.objs, τ.ids⟩) (h (Base.sub (G.add yk (some (w.heap.size + 1), 0, 0, 0)) ⟨σ.n, σ.slots, σ.objs, yk :: σ.ids⟩ W1 none) rfl rfl hY)).mono fun e w' hq => ?_
    obtain ⟨v, G', τ, av, a', rfl, hr', hv, hK⟩ := hq
    have hs0 : w.heap.size + 1 < W1.heap.size := (Array.getElem?_eq_some_iff.1 hL1).1
    have hL2 := (hr'.heap.old (w.heap.size + 1) hs0 (hr1.not_block hL1 (by simp))).trans hL1
    have hK2 := (hr'.heap.old w.heap.size (by show _ < W1.heap.size; omega) (hr1.not_block hK1 (by simp))).trans hK1
    obtain ⟨hle, hb'⟩ := hr1.back hr'
    have hsz : B.w0.heap.size ≤ w.heap.size := hr.heap.size
    have hDlt : ∀ q ∈ D, q < w.heap.size := fun q hq => (Array.getElem?_eq_some_iff.1 (hr.heap.pin q hq).1).1
    refine ⟨none, _, run_endLoop hL2 (by simp), w.heap.size :: D, G', ⟨σ.n, σ.slots, τ.objs, τ.ids⟩, ?_, hK⟩
    have ht := hb'.turnNew (l := w.heap.size + 1) (o := .loop { state := .exhausted, pending := none, fn := fnid, tmps := a.tmps, params := ps, assign := assign, body := body, defers := w.heap.size }) (by show B.w0.heap.size ≤ _; omega) (fun hin => by have := hDlt _ hin; omega) hL2 (by simp)
    exact ht.pinNew hsz (fun hin => by have := hDlt _ hin; omega) ((World.putObj_heap_other (by omega)).trans hK2)
end sub
end Go.Proofs.Ytkollnaojpppcaa
