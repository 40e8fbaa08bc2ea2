/- A call that is lent some objects; plain lemmas over any program; no condition. -/
import Derived.Test.YtecdhmiamlgibaaDoorJf
import Derived.Test.YtecdhmiamlgibaaDoorAm20
/- Le39: A call that is lent some objects; plain lemmas over any program; no condition. -/
namespace Go.Proofs.YtecdhmiamlgibaaDoor
set_option linter.unusedVariables false
set_option linter.unusedSimpArgs false
set_option linter.unusedSectionVars false
open Go.RowKit
set_option maxRecDepth 100000
theorem s_weakI {P : Program} {B : Base} {c : Code} {σ : AS} {Q : Exit → AS → Prop} {I : List Nat} (hI : B.I0 = I) (τ : AS) (h : WeakI I σ τ) (k : SP P B c τ Q) : SP P B c σ Q := sp_weak (by rw [hI]; exact h) k
section
variable {P : Program} {TT : TTab} {PT : PTab} {B : Base} {ops : Array Oper}
theorem spl_lend (hTT : TTok P TT) {σ : AS} {Q : Exit → AS → Prop} {o : Oper} {r : List Oper} {x : Operand} {args : Array Operand} {ts : Array TypeId} {avs : List AV} {f : FuncId} {L : List AV} {fn : Func} {c : Code}
  (ho : o.op = .call { callee := .value x, args := args, argTypes := ts }) (hd : dstOk σ o = true) (hwt : wantA σ ops o = some true) (havs : σ.evs args.toList = some avs) (hent : σ.entry x avs = some (f, L)) (hfn : fnB P f = true) (hf : P.funcs[f]? = some fn) (hb : fn.body = some c) (hle : L.length ≤ fn.ntmps)
  (objs : List (Nat × AObj)) (fs : List Nat) (hF : ∀ k, lk objs k = if k ∈ fs then lk σ.objs k else none) (hL : ∀ k ∈ idsL L, k ∈ fs) (hcl : ∀ k ∈ fs, ∀ ob, lk σ.objs k = some ob → ∀ q ∈ idsLL ob.xs, q ∈ fs) {av : AV} (hav : av.ids = []) (objs' : List (Nat × AObj)) (ids' : List Nat) (hnew : ∀ k ∈ ids', k ∈ fs ∨ k ∉ σ.ids)
  (h : ∀ B' : Base, B'.I0 = fs → B'.ro = none → SP P B' c ⟨fn.ntmps, enumA 0 L, objs, fs⟩ (fun e τ => (e = .normal ∨ e = .ret) ∧ ∃ av', retA TT τ fn.results.toList = some av' ∧ (av' = av ∧ WeakI fs ⟨τ.n, [], τ.objs, τ.ids⟩ ⟨τ.n, [], objs', ids'⟩)))
  (k : SPL P B ops r (AS.put (σ.upd (ids'.map fun k => (k, lk objs' k))) o.dst av) Q) : SPL P B ops (o :: r) σ Q := fun D G w a hr => by
 unfold wpListIn
 rw [if_pos (wantA_ok hr hwt)]
 obtain ⟨argv, hop, h1, h2⟩ := enters_entry ho hfn hent havs (B.d D) G w a hr
 refine ⟨fun _ _ => trivial, ?_⟩
 rw [show (FR B.ro).round = B.ro from rfl, Oper.semAt_eq B.ro a.eval o (fun c hc => by rw [ho] at hc; cases hc), hop, Oper.uponIn_enter]
 refine ⟨fun e => (by cases e), FR_calls.2 ?_⟩
 have hsub := hr.subF hF (fun k hk => hk) hcl (n := fn.ntmps) (slots := enumA 0 L) (a' := { tmps := argv ++ Array.replicate (fn.ntmps - argv.size) undef, defers := [] }) (by simp; omega) (fun t av ht => by
  obtain ⟨q1, q2⟩ := entry_slots (m := fn.ntmps - argv.size) hle h1 h2 t av ht
  refine ⟨q1, q2, fun k hk => hL k ?_⟩
  obtain ⟨_, q3, q4⟩ := lk_enumA L 0 t av ht
  simp only [Nat.zero_add, Nat.sub_zero] at q3 q4
  subst q4
  exact idsL_mem q3 hk) rfl
 refine (call_sp hTT hf hb rfl hsub (K := fun av' τ' => av' = av ∧ WeakI fs ⟨τ'.n, [], τ'.objs, τ'.ids⟩ ⟨τ'.n, [], objs', ids'⟩) (h _ rfl rfl)).mono fun e w' hq => ?_
 obtain ⟨v, G2, τ1, av2, a2, rfl, hr1, hv, rfl, _, ρ, _, g2, g3, g4⟩ := hq
 have hr2 := hr1.weakG (τ := ⟨τ1.n, [], objs', ids'⟩) ρ rfl (fun t av ht => by cases ht) g2 g3 g4
 have hv2 : Rv (⟨G2.S, fun k => if k ∈ ids' then G2.loc (ρ k) else none⟩ : Gh) av2 v := Rv.pure (G := G2) (G' := ⟨G2.S, fun k => if k ∈ ids' then G2.loc (ρ k) else none⟩) (fun _ _ _ h => h) hv hav
 generalize hG3 : (⟨G2.S, fun k => if k ∈ ids' then G2.loc (ρ k) else none⟩ : Gh) = G3 at hv2
 replace hr2 : R ((Base.sub (G.only fs) ⟨σ.n, [], objs, fs⟩ w none).d []) G3 ⟨τ1.n, [], objs', ids'⟩ w' a2 := hG3 ▸ hr2
 obtain ⟨G', hle2, hle', hr3⟩ := hr.backF hF (fun k hk => hk) hr2 (fun k hk hkf => (hnew k hk).resolve_left hkf)
 have h4 : R (B.d D) G' (σ.upd (ids'.map fun k => (k, lk objs' k))) w' a := StEq.R (σ := σ.upd (ids'.reverse.map fun k => (k, lk objs' k))) (τ := σ.upd (ids'.map fun k => (k, lk objs' k))) ⟨rfl, fun _ => rfl, fun k => ?_, fun k => ?_⟩ hr3
 ·exact k D G' w' _ (h4.put (fun d hdd => R.dst (G := G) (w := w) (a := a) (σ := σ) hd d hdd) (hv2.mono hle2))
 ·have e1 := lk_updMap (fun k => lk objs' k) k ids'.reverse σ.objs
  have e2 := lk_updMap (fun k => lk objs' k) k ids' σ.objs
  show lk (updO σ.objs (ids'.reverse.map fun k => (k, lk objs' k))) k = lk (updO σ.objs (ids'.map fun k => (k, lk objs' k))) k
  rw [e1, e2]
  simp only [List.mem_reverse]
 ·show k ∈ updI σ.ids (ids'.reverse.map fun k => (k, lk objs' k)) ↔ k ∈ updI σ.ids (ids'.map fun k => (k, lk objs' k))
  rw [updI_mem, updI_mem]
  simp only [List.map_map, List.mem_map, List.mem_reverse, Function.comp]
end
end Go.Proofs.YtecdhmiamlgibaaDoor
/- Lr39: What a function returns in objects of its own, read as values that stay: pointers and slices; plain lemmas over any program; no condition. -/
namespace Go.Proofs.YtecdhmiamlgibaaDoor
set_option linter.unusedVariables false
set_option linter.unusedSimpArgs false
set_option linter.unusedSectionVars false
open Go.RowKit
set_option maxRecDepth 100000
section
variable {P : Program} {σ : AS} {o : Oper}
structure ReadT (G : Gh) (w : World) (objs : List (Nat × AObj)) (T : Nat → Nat → Option Value) : Prop where
 st : ∀ b o u, G.S b o = some u → T b o = some u
 ob : ∀ k ob b x p u, lk objs k = some ob → G.loc k = some (some b, x) → w.cell? ⟨b, p, none⟩ = some u → T b p = some u
theorem obj_pure {f : FuncId} {args : List AV} {res : AV} {objs : List (Nat × AObj)} {ids : List Nat} {res' : AV} (hF : FnObj P f args res objs ids)
  (hrd : ∀ (B : Base) (G : Gh) (n : Nat) (w : World) (a : Act) (v : Value) (T : Nat → Nat → Option Value), R B G ⟨n, [], objs, ids⟩ w a → ReadT G w objs T → Rv G res v → Rv (G0 T) res' v) : FnPure P f args res' := fun S w vs hS hn hv =>
 (hF.2 S w vs hS hn hv).mono fun e w' ⟨v, G', a', he, hr, hrv⟩ => by
  have hh := hr.heap
  have hb : Below w.heap.size w w' := ⟨hh.os, hh.tape, hh.output, hh.size, fun b hb => hh.old b hb (by simp [base0])⟩
  refine ⟨v, fun b o => if b < w.heap.size then S b o else w'.cell? ⟨b, o, none⟩, he, hb, fun b o u hs => ?_, fun b o u hs => ?_, fun b o u hs => ?_, hrd _ _ _ _ _ _ _ hr ⟨fun b o u hs => ?_, fun k ob b x p u hk hl hc => ?_⟩ hrv⟩
  ·have := World.block_lt_of_cell? _ _ (hS.1 b o u hs)
   show (if b < w.heap.size then _ else _) = _
   rw [if_pos this]; exact hs
  ·simp only at hs
   split at hs
   ·rename_i hlt; exact (hb.cell hlt).trans (hS.1 b o u hs)
   ·exact hs
  ·simp only at hs
   split at hs
   ·exact .inl hs
   ·exact .inr (by omega)
  ·show (if b < w.heap.size then _ else _) = _
   rcases hh.fresh b o u hs with h | h | h
   ·have h2 : S b o = some u := h
    have := World.block_lt_of_cell? _ _ (hS.1 b o u h2)
    rw [if_pos this]; exact h2
   ·rw [if_neg (by have : w.heap.size ≤ b := h; omega)]; exact hh.st b o u hs
   ·cases h
  ·show (if b < w.heap.size then _ else _) = _
   rcases hh.own k ob hk b x.1 x.2.1 x.2.2 hl with h | h
   ·rw [if_neg (by have : w.heap.size ≤ b := h; omega)]; exact hc
   ·cases h
theorem read_ref {B : Base} {G : Gh} {w : World} {a : Act} {T : Nat → Nat → Option Value} (hr : R B G σ w a) (hT : ReadT G w σ.objs T) {k off n : Nat} {av : AV} (hsh : σ.shut1 (fun _ => true) (.ref k off n) = some av) {v : Value} (hv : Rv G (.ref k off n) v) : Rv (G0 T) av v :=
 shut1_ok hr (T := T) hT.st (fun k ob b x p u _ hk hl hc => hT.ob k ob b x p u hk hl hc) (L := fun _ => none) hv hsh
theorem read_ptr {B : Base} {G : Gh} {w : World} {a : Act} {T : Nat → Nat → Option Value} (hr : R B G σ w a) (hT : ReadT G w σ.objs T) {k : Nat} {t : TypeId} {sz : Nat} {row : List AV} (hk : lk σ.objs k = some ⟨t, sz, [row]⟩) (hz : 0 < sz) (hzr : row.length = sz) {ds : List AV} (hl : ds.length = row.length)
  (hel : ∀ j u, j < row.length → Rv G (row.getD j .any) u → Rv (G0 T) (ds.getD j .any) u) {v : Value} (hv : Rv G (.ptr k 0 0) v) : Rv (G0 T) (.pt ds) v := by
 cases hv with
 | ptr _ _ _ b base cap sz2 hlc =>
  obtain ⟨blk', ba, ca, g1, g2, g3, g4, g5⟩ := (hr.heap.obj k _ hk).cells hz
  rw [hlc] at g1
  cases g1
  have hcell : ∀ j, j < row.length → ∃ u, w.cell? ⟨b, base + j, none⟩ = some u ∧ u.oneCell' = true ∧ Rv G (row.getD j .any) u := fun j hj => by
   obtain ⟨_, u, c1, _, c2, c3⟩ := hr.cellsOf hk hlc (e := 0) (j := j) (by simp) (by show j < sz; omega)
   rw [Nat.zero_mul, Nat.zero_add] at c1
   exact ⟨u, c1, c2, c3⟩
  refine .pt ds b (base + (0 * sz + 0)) (fun j => (w.cell? ⟨b, base + j, none⟩).getD undef) (fun j hj => ?_) (fun j hj => ?_) (fun j hj => ?_)
  ·obtain ⟨u, c1, _, _⟩ := hcell j (by omega)
   simp only [c1, Option.getD_some]
   rw [show base + (0 * sz + 0) + j = base + j by omega]
   exact hT.ob k _ b (base, cap, sz) _ u hk hlc c1
  ·obtain ⟨u, c1, c2, _⟩ := hcell j (by omega)
   simp only [c1, Option.getD_some]; exact c2
  ·obtain ⟨u, c1, _, c3⟩ := hcell j (by omega)
   simp only [c1, Option.getD_some]
   exact hel j u (by omega) c3
theorem Rv.tupM {G G' : Gh} {cs ds : List AV} {v : Value} (h : Rv G (.tup cs) v) (hl : ds.length = cs.length) (hd : ∀ i u, i < cs.length → Rv G (cs.getD i .any) u → Rv G' (ds.getD i .any) u) : Rv G' (.tup ds) v := by
 cases h with
 | tup _ us h1 h2 => exact .tup ds us (by omega) fun i hi => hd i _ (by omega) (h2 i (by omega))
theorem post_obj {TT : TTab} {fn : Func} {res av : AV} {objs : List (Nat × AObj)} {e : Exit} {σ : AS} {rs : List ResultVar} (he : e = .normal ∨ e = .ret) (hr : fn.results.toList = rs) (h1 : retA TT σ rs = some av) (ρ : Nat → Nat) (h2 : res.ren ρ = av)
  (h3 : ∀ k ob, lk objs k = some ob → lk σ.objs (ρ k) = some ⟨ob.t, ob.sz, renLL ρ ob.xs⟩) (h4 : ∀ k ob k' ob', lk objs k = some ob → lk objs k' = some ob' → ρ k = ρ k' → k = k') : PostO TT fn res objs e σ := ⟨he, av, by rw [hr]; exact h1, ρ, h2, h3, h4⟩
end
end Go.Proofs.YtecdhmiamlgibaaDoor
