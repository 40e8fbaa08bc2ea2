/- An abstract machine for the text, part twenty-two: a call that returns a slice of its own, in a region of open order; plain lemmas over any program; no condition. -/
import Derived.Test.YtecdhmiamlgibaaDoorAm21
namespace Go.Proofs.YtecdhmiamlgibaaDoor
set_option linter.unusedVariables false
set_option linter.unusedSimpArgs false
set_option linter.unusedSectionVars false
open Go.RowKit
section
variable {P : Program} {TT : TTab} {PT : PTab} {B : Base} {ops : Array Oper} {es : List Ef}
theorem eff_obj {σ : AS} {o : Oper} {x : Operand} {args : Array Operand} {ts : Array TypeId} {avs : List AV} {f : FuncId} {n : Nat} {ob : AObj}
  (ho : o.op = .call { callee := .value x, args := args, argTypes := ts }) (hd : dstOk σ o = true) (hwt : wantA σ ops o = some true) (havs : σ.evs args.toList = some avs) (hent : σ.entry x avs = some (f, avs)) (hfn : fnB P f = true) (hp : idsL avs = []) (hF : FnObj P f avs (.ref 0 0 n) [(0, ob)] [0]) (hpure : idsLL ob.xs = []) {id : Nat} (hid : id ∉ σ.ids) :
  Ok1 (EffOk P B ops σ o ⟨o.dst, .ref id 0 n, [(id, some ob)], looksO ops o, [id], none⟩) := by
 constructor
 intro τ hn hs hobj hidk hsh G w a hr K Q hK
 simp only at hs hobj hidk
 have hd' : dstOk τ o = true := by unfold dstOk at hd ⊢; rw [hn]; exact hd
 have hev : ∀ x ∈ o.op.operands.toList, τ.ev x = σ.ev x := fun x hx => by
  cases x with
  | tmp t => exact hs t (by rw [looksO, List.mem_append]; exact .inl (List.mem_filterMap.2 ⟨.tmp t, hx, rfl⟩))
  | _ => rfl
 have hw : wantA τ ops o = wantA σ ops o := by
  unfold wantA
  split
  ·rfl
  ·rename_i j want hg
   split
   ·rename_i t ht
    rw [hs t (by rw [looksO, List.mem_append]; right; rw [hg]; simp only [ht]; simp)]
   ·rfl
 rw [← hw] at hwt
 have hops : ∀ y, y = x ∨ y ∈ args.toList → y ∈ o.op.operands.toList := fun y hy => by
  rw [ho]
  simp only [Op.operands]
  unfold Call.operands
  simp only [Array.toList_append, List.mem_append]
  rcases hy with rfl | hy
  ·left; simp
  ·exact .inr hy
 have havs' : τ.evs args.toList = some avs := by rw [evs_congr fun y hy => hev y (hops y (.inr hy))]; exact havs
 have hent' : τ.entry x avs = some (f, avs) := by
  rw [← hent]
  unfold AS.entry AS.callee AS.bound
  rw [hev x (hops x (.inl rfl))]
 rw [if_pos (wantA_ok hr hwt)]
 obtain ⟨argv, hop, h1, h2⟩ := enters_entry ho hfn hent' havs' B G w a hr
 have hidt : id ∉ τ.ids := fun hk => hid ((hidk id List.mem_cons_self).1 hk)
 refine ⟨fun _ _ => trivial, ?_⟩
 rw [show (FR B.ro).round = B.ro from rfl, Oper.semAt_eq B.ro a.eval o (fun c hc => by rw [ho] at hc; cases hc), hop, Oper.uponIn_enter]
 refine ⟨fun e => (by cases e), FR_calls.2 ?_⟩
 refine (hF.2 G.S w argv hr.heap.stOk h1 (fun i hi => Rv.pure (G := G) (G' := G0 G.S) (fun _ _ _ h => h) (h2 i hi) (by
   refine List.eq_nil_iff_forall_not_mem.2 fun j hj => ?_
   have := idsL_mem hi hj
   rw [hp] at this; cases this))).mono fun e w' hl => ?_
 obtain ⟨v, G2, a2, rfl, h3, h4⟩ := hl
 obtain ⟨G', g1, g2, g3⟩ := hr.gain (q := id) (fun i hi => by simp only [List.mem_singleton] at hi; subst hi; rw [Nat.zero_add]; exact hidt) hF.1 h3 h4
 refine hK G' w' _ ?_
 have e0 : shO id [(0, ob)] = [(id, ob)] := by simp [shO, renLL_pure _ _ hpure]
 have h5 : R B G' (τ.upd [(id, some ob)]) w' a := StEq.R (σ := ⟨τ.n, τ.slots, shO id [(0, ob)] ++ τ.objs, [0].map (· + id) ++ τ.ids⟩) (τ := τ.upd [(id, some ob)]) ⟨rfl, fun _ => rfl, fun k => by
  show lk (shO id [(0, ob)] ++ τ.objs) k = lk (updO τ.objs [(id, some ob)]) k
  rw [e0]
  simp only [List.cons_append, List.nil_append, lk, updO, lk_st], fun k => by
  show k ∈ [0].map (· + id) ++ τ.ids ↔ k ∈ updI τ.ids [(id, some ob)]
  rw [updI_mem]
  simp⟩ g2
 have g4 : Rv G' (.ref id 0 n) v := by
  have := g3
  simp only [AV.ren, Nat.zero_add] at this
  exact this
 have := h5.put (fun d hdd => R.dst (G := G) (w := w) (a := a) hd' d hdd) g4
 unfold Ef.app Ef.pk pntO
 simpa [AS.upd] using this
theorem eff_read {σ : AS} {o : Oper} {x : Operand} {args : Array Operand} {ts : Array TypeId} {avs bvs : List AV} {f : FuncId} {res : AV} {fs : List Nat}
  (ho : o.op = .call { callee := .value x, args := args, argTypes := ts }) (hd : dstOk σ o = true) (hwt : wantA σ ops o = some true) (havs : σ.evs args.toList = some avs) (hent : σ.entry x avs = some (f, avs)) (hfn : fnB P f = true) (hl : bvs.length = avs.length)
  (hrd : ∀ τ : AS, (∀ k ∈ fs, lk τ.objs k = lk σ.objs k) → ∀ B G w a, R B G τ w a → ∀ i v, i < avs.length → Rv G (avs.getD i .any) v → Rv (G0 (fun b p => w.cell? ⟨b, p, none⟩)) (bvs.getD i .any) v) (hF : FnPure P f bvs res) (hs : res.scalar = true) :
  Ok1 (EffOk P B ops σ o ⟨o.dst, res, [], looksO ops o, fs, none⟩) := by
 constructor
 intro τ hn hs' hobj hidk hsh G w a hr K Q hK
 simp only at hs' hobj hidk
 have hd' : dstOk τ o = true := by unfold dstOk at hd ⊢; rw [hn]; exact hd
 have hev : ∀ x ∈ o.op.operands.toList, τ.ev x = σ.ev x := fun x hx => by
  cases x with
  | tmp t => exact hs' t (by rw [looksO, List.mem_append]; exact .inl (List.mem_filterMap.2 ⟨.tmp t, hx, rfl⟩))
  | _ => rfl
 have hw : wantA τ ops o = wantA σ ops o := by
  unfold wantA
  split
  ·rfl
  ·rename_i j want hg
   split
   ·rename_i t ht
    rw [hs' t (by rw [looksO, List.mem_append]; right; rw [hg]; simp only [ht]; simp)]
   ·rfl
 rw [← hw] at hwt
 have hops : ∀ y, y = x ∨ y ∈ args.toList → y ∈ o.op.operands.toList := fun y hy => by
  rw [ho]
  simp only [Op.operands]
  unfold Call.operands
  simp only [Array.toList_append, List.mem_append]
  rcases hy with rfl | hy
  ·left; simp
  ·exact .inr hy
 have havs' : τ.evs args.toList = some avs := by rw [evs_congr fun y hy => hev y (hops y (.inr hy))]; exact havs
 have hent' : τ.entry x avs = some (f, avs) := by
  rw [← hent]
  unfold AS.entry AS.callee AS.bound
  rw [hev x (hops x (.inl rfl))]
 rw [if_pos (wantA_ok hr hwt)]
 obtain ⟨argv, hop, h1, h2⟩ := enters_entry ho hfn hent' havs' B G w a hr
 refine ⟨fun _ _ => trivial, ?_⟩
 rw [show (FR B.ro).round = B.ro from rfl, Oper.semAt_eq B.ro a.eval o (fun c hc => by rw [ho] at hc; cases hc), hop, Oper.uponIn_enter]
 refine ⟨fun e => (by cases e), FR_calls.2 ?_⟩
 have hc := hF (fun b p => w.cell? ⟨b, p, none⟩) w argv hr.heap.allOk (by omega) (fun i hi => hrd τ hobj B G w a hr i _ (by omega) (h2 i (by omega)))
 refine Calls.mono hc fun e w' hl => ?_
 obtain ⟨v, S', rfl, hb, g1, g2, g3, g4⟩ := hl
 obtain ⟨r1, r2⟩ := hr.after (S' := G.S) hb (fun _ _ _ h => h) (fun b p u h => by
  have := hr.heap.st b p u h
  exact (hb.cell (World.block_lt_of_cell? _ _ this)).trans this) (fun _ _ _ h => .inl h)
 refine hK ⟨G.S, G.loc⟩ w' _ ?_
 have := r2.put (fun d hdd => R.dst (G := G) (w := w) (a := a) hd' d hdd) (g4.scalar hs (G' := ⟨G.S, G.loc⟩))
 unfold Ef.app Ef.pk pntO
 simpa [AS.upd, updO, updI] using this
end
end Go.Proofs.YtecdhmiamlgibaaDoor
