/- An abstract machine for the text, part twenty-five: an object of which only an invariant is known, while a region of open order calls functions that change it; plain lemmas over any program; no condition. -/
import Derived.Test.YtekeidhndlnghaaAm21
namespace Go.Proofs.Ytekeidhndlnghaa
set_option linter.unusedVariables false
set_option linter.unusedSimpArgs false
set_option linter.unusedSectionVars false
open Go.RowKit
section
variable {P : Program} {TT : TTab} {PT : PTab} {B : Base} {ops : Array Oper} {es : List Ef} {ι : Type} {k0 : Nat} {mk : ι → AObj} {Inv : ι → Prop}
theorem eff_callU (hTT : TTok P TT) {σ : AS} {o : Oper} {x : Operand} {args : Array Operand} {ts : Array TypeId} {avs : List AV} {f : FuncId} {L : List AV} {fn : Func} {c : Code}
    (ho : o.op = .call { callee := .value x, args := args, argTypes := ts }) (hd : dstOk σ o = true) (hwt : wantA σ ops o = some true) (havs : σ.evs args.toList = some avs) (hent : σ.entry x avs = some (f, L)) (hfn : fnB P f = true) (hf : P.funcs[f]? = some fn) (hb : fn.body = some c) (hle : L.length ≤ fn.ntmps)
    (objs : List (Nat × AObj)) (fs : List Nat) (hF0 : ∀ k, lk objs k = if k ∈ fs then lk σ.objs k else none) (hL : ∀ k ∈ idsL L, k ∈ fs) (hcl0 : ∀ k ∈ fs, ∀ ob, lk σ.objs k = some ob → ∀ q ∈ idsLL ob.xs, q ∈ fs) (hfs : ∀ k ∈ fs, k ∈ σ.ids) {id : Nat} (hid : id ∈ fs) {av : AV} {ob' : AObj}
    (h : ∀ B' : Base, B'.I0 = fs → B'.ro = none → SP P B' c ⟨fn.ntmps, enumA 0 L, objs, fs⟩ (fun e τ => (e = .normal ∨ e = .ret) ∧ ∃ av', retA TT τ fn.results.toList = some av' ∧ (av' = av ∧ (∀ k, lk τ.objs k = if k = id then some ob' else lk objs k) ∧ ∀ k, k ∈ τ.ids ↔ k ∈ fs))) :
    Ok1 (EffOk P B ops σ o ⟨o.dst, av, [(id, some ob')], looksO ops o, fs, none⟩) := by
  constructor
  intro τ hn hs hobj hidk hsh G w a hr K Q hK
  simp only at hs hobj hidk
  have hd' : dstOk τ o = true := by unfold dstOk at hd ⊢; rw [hn]; exact hd
  have hev : ∀ x ∈ o.op.operands.toList, τ.ev x = σ.ev x := fun x hx => by
    cases x with
    | tmp t => exact hs t (by rw [looksO, List.mem_append]; exact .inl (List.mem_filterMap.2 ⟨.tmp t, hx, rfl⟩))
    | _ => rfl
  have hw : wantA τ ops o = wantA σ ops o := by
    unfold wantA
    split
    · rfl
    · rename_i j want hg
      split
      · rename_i t ht
        rw [hs t (by rw [looksO, List.mem_append]; right; rw [hg]; simp only [ht]; simp)]
      · rfl
  rw [← hw] at hwt
  have hops : ∀ y, y = x ∨ y ∈ args.toList → y ∈ o.op.operands.toList := fun y hy => by
    rw [ho]
    simp only [Op.operands]
    unfold Call.operands
    simp only [Array.toList_append, List.mem_append]
    rcases hy with rfl | hy
    · left; simp
    · exact .inr hy
  have havs' : τ.evs args.toList = some avs := by rw [evs_congr fun y hy => hev y (hops y (.inr hy))]; exact havs
  have hent' : τ.entry x avs = some (f, L) := by
    rw [← hent]
    unfold AS.entry AS.callee AS.bound
    rw [hev x (hops x (.inl rfl))]
  rw [if_pos (wantA_ok hr hwt)]
  obtain ⟨argv, hop, h1, h2⟩ := enters_entry ho hfn hent' havs' B G w a hr
  have hfp : ∀ k ∈ fs, lk τ.objs k = lk σ.objs k := fun k hk => hobj k hk
  have hF : ∀ k, lk objs k = if k ∈ fs then lk τ.objs k else none := fun k => by
    rw [hF0]
    by_cases hk : k ∈ fs
    · rw [if_pos hk, if_pos hk, hfp k hk]
    · rw [if_neg hk, if_neg hk]
  have hcl : ∀ k ∈ fs, ∀ ob, lk τ.objs k = some ob → ∀ q ∈ idsLL ob.xs, q ∈ fs := fun k hk ob hob => hcl0 k hk ob (by rw [← hfp k hk]; exact hob)
  have hfst : ∀ k ∈ fs, k ∈ τ.ids := fun k hk => (hidk k hk).2 (hfs k hk)
  refine ⟨fun _ _ => trivial, ?_⟩
  rw [show (FR B.ro).round = B.ro from rfl, Oper.semAt_eq B.ro a.eval o (fun c hc => by rw [ho] at hc; cases hc), hop, Oper.uponIn_enter]
  refine ⟨fun e => (by cases e), FR_calls.2 ?_⟩
  have hsub := hr.subF hF (fun k hk => hk) hcl (n := fn.ntmps) (slots := enumA 0 L) (a' := { tmps := argv ++ Array.replicate (fn.ntmps - argv.size) undef, defers := [] }) (by simp; omega) (fun t av ht => by
    obtain ⟨q1, q2⟩ := entry_slots (m := fn.ntmps - argv.size) hle h1 h2 t av ht
    refine ⟨q1, q2, fun k hk => hL k ?_⟩
    obtain ⟨_, q3, q4⟩ := lk_enumA L 0 t av ht
    simp only [Nat.zero_add, Nat.sub_zero] at q3 q4
    subst q4
    exact idsL_mem q3 hk) rfl
  refine (call_sp hTT hf hb rfl hsub (K := fun av' τ' => av' = av ∧ (∀ k, lk τ'.objs k = if k = id then some ob' else lk objs k) ∧ ∀ k, k ∈ τ'.ids ↔ k ∈ fs) (h _ rfl rfl)).mono fun e w' hq => ?_
  obtain ⟨v, G2, τ2, av2, a2, rfl, hr2, hv, rfl, hK2, hK3⟩ := hq
  obtain ⟨G', hle2, hle', hr3⟩ := hr.backF hF (fun k hk => hk) hr2 (fun k hk hkf => absurd ((hK3 k).1 hk) hkf)
  refine hK G' w' _ ?_
  have h4 : R B G' (τ.upd [(id, some ob')]) w' a := StEq.R (σ := τ.upd (τ2.ids.reverse.map fun k => (k, lk τ2.objs k))) (τ := τ.upd [(id, some ob')]) ⟨rfl, fun _ => rfl, fun k => ?_, fun k => ?_⟩ hr3
  · have := h4.put (fun d hdd => R.dst (G := G) (w := w) (a := a) hd' d hdd) (hv.mono hle2)
    unfold Ef.app Ef.pk pntO
    simpa [AS.upd] using this
  · have e1 := lk_updMap (fun k => lk τ2.objs k) k τ2.ids.reverse τ.objs
    show lk (updO τ.objs (τ2.ids.reverse.map fun k => (k, lk τ2.objs k))) k = lk (updO τ.objs [(id, some ob')]) k
    rw [e1]
    simp only [List.mem_reverse, updO, lk_st]
    by_cases hk : k = id
    · subst hk
      rw [if_pos ((hK3 _).2 hid), hK2, if_pos rfl, if_pos rfl]
    · rw [if_neg (show ¬ id = k from fun e => hk e.symm)]
      by_cases hkf : k ∈ fs
      · rw [if_pos ((hK3 k).2 hkf), hK2, if_neg hk, hF, if_pos hkf]
      · rw [if_neg (fun e => hkf ((hK3 k).1 e))]
  · show k ∈ updI τ.ids (τ2.ids.reverse.map fun k => (k, lk τ2.objs k)) ↔ k ∈ updI τ.ids [(id, some ob')]
    rw [updI_mem, updI_mem]
    simp only [List.map_map, List.mem_map, List.mem_reverse, Function.comp, List.map_cons, List.map_nil, List.mem_singleton]
    constructor
    · rintro (⟨q, hq, rfl⟩ | hk)
      · exact .inr (hfst q ((hK3 q).1 hq))
      · exact .inr hk
    · rintro (rfl | hk)
      · exact .inl ⟨k, (hK3 k).2 hid, rfl⟩
      · exact .inr hk
def AS.plus (τ : AS) (k0 : Nat) (ob : AObj) : AS := ⟨τ.n, τ.slots, (k0, ob) :: τ.objs, τ.ids⟩
def RW (B : Base) (k0 : Nat) (mk : ι → AObj) (Inv : ι → Prop) (τ : AS) (w : World) (a : Act) : Prop := ∃ G X, Inv X ∧ R B G (τ.plus k0 (mk X)) w a
theorem RW.st {σ τ : AS} {w : World} {a : Act} (hs : StEq σ τ) (h : RW B k0 mk Inv σ w a) : RW B k0 mk Inv τ w a := by
  obtain ⟨G, X, hX, hr⟩ := h
  refine ⟨G, X, hX, StEq.R (σ := σ.plus k0 (mk X)) (τ := τ.plus k0 (mk X)) ⟨hs.n, hs.s, fun k => ?_, hs.i⟩ hr⟩
  simp only [AS.plus, lk]
  split
  · rfl
  · exact hs.o k
theorem EffOk.w {σ : AS} {o : Oper} {e : Ef} (h : EffOk P B ops σ o e) (hk : k0 ∉ e.fp) (hk2 : k0 ∉ e.keys) : EffOkR P B.ro (RW B k0 mk Inv) ops σ o e := by
  intro τ hn hs ho hi hp w a ⟨G, X, hX, hr⟩ K Q hK
  have hlk : ∀ (l : List (Nat × AObj)) k, k ≠ k0 → lk ((k0, mk X) :: l) k = lk l k := fun l k hne => by simp only [lk]; rw [if_neg (Ne.symm hne)]
  refine h (τ := τ.plus k0 (mk X)) hn hs (fun k hkf => ?_) hi (fun p hpp => ?_) hr K Q (fun G' w' a' hr' => hK w' a' ⟨G', X, hX, StEq.R ⟨?_, fun t => ?_, fun k => ?_, fun k => ?_⟩ hr'⟩)
  · show lk ((k0, mk X) :: τ.objs) k = _
    rw [hlk _ _ (fun e => hk (e ▸ hkf))]; exact ho k hkf
  · show shp ((k0, mk X) :: τ.objs) p.1 = _
    have : shp ((k0, mk X) :: τ.objs) p.1 = shp τ.objs p.1 := by
      unfold shp; rw [hlk _ _ (fun e => hk2 (e ▸ keys_pt hpp))]
    rw [this]; exact hp p hpp
  · rw [app_n]; show τ.n = (e.app τ).n; rw [app_n]
  · rw [app_slot]; show _ = lk (e.app τ).slots t; rw [app_slot]; rfl
  · show _ = lk ((k0, mk X) :: (e.app τ).objs) k
    by_cases hne : k = k0
    · subst hne
      rw [app_obj_out hk2]; simp [AS.plus, lk]
    · rw [hlk _ _ hne]
      exact app_obj_congr e (hlk _ _ hne)
  · rw [app_ids]; show _ ↔ k ∈ (e.app τ).ids; rw [app_ids]; rfl
theorem eff_callW (hTT : TTok P TT) {σ : AS} {o : Oper} {x : Operand} {args : Array Operand} {ts : Array TypeId} {avs : List AV} {f : FuncId} {L : List AV} {fn : Func} {c : Code}
    (ho : o.op = .call { callee := .value x, args := args, argTypes := ts }) (hd : dstOk σ o = true) (hwt : wantA σ ops o = some true) (havs : σ.evs args.toList = some avs) (hent : σ.entry x avs = some (f, L)) (hfn : fnB P f = true) (hf : P.funcs[f]? = some fn) (hb : fn.body = some c) (hle : L.length ≤ fn.ntmps)
    (objs : List (Nat × AObj)) (fs : List Nat) (hk0 : k0 ∉ fs) (hF0 : ∀ k, lk objs k = if k ∈ fs then lk σ.objs k else none) (hL : ∀ k ∈ idsL L, k ∈ k0 :: fs) (hcl0 : ∀ k ∈ fs, ∀ ob, lk σ.objs k = some ob → ∀ q ∈ idsLL ob.xs, q ∈ k0 :: fs) (hfs : ∀ k ∈ k0 :: fs, k ∈ σ.ids) (hmk : ∀ X, ∀ q ∈ idsLL (mk X).xs, q ∈ k0 :: fs) {av : AV}
    (h : ∀ X, Inv X → ∀ B' : Base, B'.I0 = k0 :: fs → B'.ro = none → SP P B' c ⟨fn.ntmps, enumA 0 L, (k0, mk X) :: objs, k0 :: fs⟩ (fun e τ => (e = .normal ∨ e = .ret) ∧ ∃ av', retA TT τ fn.results.toList = some av' ∧ (av' = av ∧ ∃ X', Inv X' ∧ (∀ k, lk τ.objs k = if k = k0 then some (mk X') else lk objs k) ∧ ∀ k, k ∈ τ.ids ↔ k ∈ k0 :: fs))) :
    Ok1 (EffOkR P B.ro (RW B k0 mk Inv) ops σ o ⟨o.dst, av, [], looksO ops o, k0 :: fs, none⟩) := by
  constructor
  intro τ hn hs hobj hidk hsh w a ⟨G, X, hX, hr⟩ K Q hK
  simp only at hs hobj hidk
  obtain ⟨τp, hτp⟩ : ∃ τp, τ.plus k0 (mk X) = τp := ⟨_, rfl⟩
  have hpo : ∀ k, lk τp.objs k = if k = k0 then some (mk X) else lk τ.objs k := fun k => by
    subst hτp
    simp only [AS.plus, lk]
    by_cases e : k = k0
    · rw [if_pos e, if_pos e.symm]
    · rw [if_neg e, if_neg (Ne.symm e)]
  have hpn : τp.n = τ.n := by subst hτp; rfl
  have hps : τp.slots = τ.slots := by subst hτp; rfl
  have hpi : τp.ids = τ.ids := by subst hτp; rfl
  rw [hτp] at hr
  have hd' : dstOk τp o = true := by unfold dstOk at hd ⊢; rw [hpn, hn]; exact hd
  have hev : ∀ x ∈ o.op.operands.toList, τp.ev x = σ.ev x := fun x hx => by
    cases x with
    | tmp t => show lk τp.slots t = _; rw [hps]; exact hs t (by rw [looksO, List.mem_append]; exact .inl (List.mem_filterMap.2 ⟨.tmp t, hx, rfl⟩))
    | _ => rfl
  have hw : wantA τp ops o = wantA σ ops o := by
    unfold wantA
    split
    · rfl
    · rename_i j want hg
      split
      · rename_i t ht
        rw [hps, hs t (by rw [looksO, List.mem_append]; right; rw [hg]; simp only [ht]; simp)]
      · rfl
  rw [← hw] at hwt
  have hops : ∀ y, y = x ∨ y ∈ args.toList → y ∈ o.op.operands.toList := fun y hy => by
    rw [ho]
    simp only [Op.operands]
    unfold Call.operands
    simp only [Array.toList_append, List.mem_append]
    rcases hy with rfl | hy
    · left; simp
    · exact .inr hy
  have havs' : τp.evs args.toList = some avs := by rw [evs_congr fun y hy => hev y (hops y (.inr hy))]; exact havs
  have hent' : τp.entry x avs = some (f, L) := by
    rw [← hent]
    unfold AS.entry AS.callee AS.bound
    rw [hev x (hops x (.inl rfl))]
  rw [if_pos (wantA_ok hr hwt)]
  obtain ⟨argv, hop, h1, h2⟩ := enters_entry ho hfn hent' havs' B G w a hr
  have hfp : ∀ k ∈ fs, lk τ.objs k = lk σ.objs k := fun k hk => hobj k (List.mem_cons_of_mem _ hk)
  have hne : ∀ k ∈ fs, k ≠ k0 := fun k hk e => hk0 (e ▸ hk)
  have hF : ∀ k, lk ((k0, mk X) :: objs) k = if k ∈ k0 :: fs then lk τp.objs k else none := fun k => by
    rw [hpo]
    simp only [lk]
    by_cases e : k = k0
    · subst e; rw [if_pos rfl, if_pos List.mem_cons_self, if_pos rfl]
    · rw [if_neg (Ne.symm e), hF0]
      by_cases hk : k ∈ fs
      · rw [if_pos hk, if_pos (List.mem_cons_of_mem _ hk), if_neg e, hfp k hk]
      · rw [if_neg hk, if_neg (fun h => by rcases List.mem_cons.1 h with h | h; exact e h; exact hk h)]
  have hcl : ∀ k ∈ k0 :: fs, ∀ ob, lk τp.objs k = some ob → ∀ q ∈ idsLL ob.xs, q ∈ k0 :: fs := fun k hk ob hob q hq => by
    rw [hpo] at hob
    by_cases e : k = k0
    · rw [if_pos e] at hob; cases hob; exact hmk X q hq
    · rw [if_neg e] at hob
      rcases List.mem_cons.1 hk with hk | hk
      · exact absurd hk e
      · exact hcl0 k hk ob (by rw [← hfp k hk]; exact hob) q hq
  have hfst : ∀ k ∈ k0 :: fs, k ∈ τp.ids := fun k hk => by rw [hpi]; exact (hidk k hk).2 (hfs k hk)
  refine ⟨fun _ _ => trivial, ?_⟩
  rw [show (FR B.ro).round = B.ro from rfl, Oper.semAt_eq B.ro a.eval o (fun c hc => by rw [ho] at hc; cases hc), hop, Oper.uponIn_enter]
  refine ⟨fun e => (by cases e), FR_calls.2 ?_⟩
  have hsub := hr.subF hF (fun k hk => hk) hcl (n := fn.ntmps) (slots := enumA 0 L) (a' := { tmps := argv ++ Array.replicate (fn.ntmps - argv.size) undef, defers := [] }) (by simp; omega) (fun t av ht => by
    obtain ⟨q1, q2⟩ := entry_slots (m := fn.ntmps - argv.size) hle h1 h2 t av ht
    refine ⟨q1, q2, fun k hk => hL k ?_⟩
    obtain ⟨_, q3, q4⟩ := lk_enumA L 0 t av ht
    simp only [Nat.zero_add, Nat.sub_zero] at q3 q4
    subst q4
    exact idsL_mem q3 hk) rfl
  refine (call_sp hTT hf hb rfl hsub (K := fun av' τ' => av' = av ∧ ∃ X', Inv X' ∧ (∀ k, lk τ'.objs k = if k = k0 then some (mk X') else lk objs k) ∧ ∀ k, k ∈ τ'.ids ↔ k ∈ k0 :: fs) (h X hX _ rfl rfl)).mono fun e w' hq => ?_
  obtain ⟨v, G2, τ2, av2, a2, rfl, hr2, hv, rfl, X', hX', hK2, hK3⟩ := hq
  obtain ⟨G', hle2, hle', hr3⟩ := hr.backF hF (fun k hk => hk) hr2 (fun k hk hkf => absurd ((hK3 k).1 hk) hkf)
  refine hK w' _ ⟨G', X', hX', ?_⟩
  have h4 : R B G' (τ.plus k0 (mk X')) w' a := StEq.R (σ := τp.upd (τ2.ids.reverse.map fun k => (k, lk τ2.objs k))) (τ := τ.plus k0 (mk X')) ⟨hpn, fun _ => by show lk τp.slots _ = _; rw [hps]; rfl, fun k => ?_, fun k => ?_⟩ hr3
  · have hd4 : dstOk (τ.plus k0 (mk X')) o = true := by unfold dstOk at hd ⊢; rw [show (τ.plus k0 (mk X')).n = σ.n from hn]; exact hd
    have := h4.put (fun d hdd => R.dst (G := G) (w := w) (a := a) hd4 d hdd) (hv.mono hle2)
    have e3 : (⟨o.dst, av2, [], looksO ops o, k0 :: fs, none⟩ : Ef).app τ = τ.put o.dst av2 := by
      unfold Ef.app Ef.pk pntO; rfl
    rw [e3]
    have e4 : (τ.put o.dst av2).plus k0 (mk X') = (τ.plus k0 (mk X')).put o.dst av2 := by unfold AS.put; cases o.dst <;> rfl
    rw [e4]; exact this
  · have e1 := lk_updMap (fun k => lk τ2.objs k) k τ2.ids.reverse τp.objs
    show lk (updO τp.objs (τ2.ids.reverse.map fun k => (k, lk τ2.objs k))) k = lk ((k0, mk X') :: τ.objs) k
    rw [e1]
    simp only [List.mem_reverse, lk]
    by_cases hk : k = k0
    · subst hk
      rw [if_pos ((hK3 _).2 List.mem_cons_self), hK2, if_pos rfl, if_pos rfl]
    · rw [if_neg (show ¬ k0 = k from fun e => hk e.symm)]
      by_cases hkf : k ∈ fs
      · rw [if_pos ((hK3 k).2 (List.mem_cons_of_mem _ hkf)), hK2, if_neg hk, hF0, if_pos hkf, hfp k hkf]
      · rw [if_neg (fun e => by rcases List.mem_cons.1 ((hK3 k).1 e) with e | e; exact hk e; exact hkf e), hpo, if_neg hk]
  · show k ∈ updI τp.ids (τ2.ids.reverse.map fun k => (k, lk τ2.objs k)) ↔ k ∈ τ.ids
    rw [updI_mem, hpi]
    simp only [List.map_map, List.mem_map, List.mem_reverse, Function.comp]
    constructor
    · rintro (⟨q, hq, rfl⟩ | hk)
      · have := hfst q ((hK3 q).1 hq); rw [hpi] at this; exact this
      · exact hk
    · intro hk
      exact .inr hk
theorem s_drawW (hP : P.follows .mixedOrders = true) {eff : Nat → AS → Oper → Option Ef} (heff0 : ∀ D id σ o e, eff id σ o = some e → EffOkR P B.ro (RW (B.d D) k0 mk Inv) ops σ o e) {id q : Nat} {σ σ0 σ' : AS} {X0 : ι} {Q : Exit → AS → Prop} (h0 : σ = σ0.plus k0 (mk X0)) (hX : Inv X0) (h : runG eff ops.toList q σ0 = some (σ', es)) (hok : ordOk ops.toList es = true) (k : ∀ X, Inv X → Q .normal (σ'.plus k0 (mk X))) : SP P B (.region id ops true) σ Q := by
  subst h0
  exact fun D G w a hr => wpIn_region_any hP (any_okR (ro := B.ro) (RR := RW (B.d D) k0 mk Inv) (fun hs hh => hh.st hs) (heff0 D) h hok (fun w' a' hh => by
    obtain ⟨G', X, hX', hr'⟩ := hh
    exact ⟨D, G', _, hr', k X hX'⟩) ops.size _ (by simp) (fun j o ho hd => by
    have : (Array.replicate ops.size false).getD j false = false := by
      simp only [Array.getD_eq_getD_getElem?, Array.getElem?_replicate]
      split <;> rfl
    replace hd : (Array.replicate ops.size false).getD j false = true := hd
    rw [this] at hd; cases hd) (by
      refine Nat.le_trans (List.length_filter_le _ _) (by simp)) (by
      have : ((List.range es.length).filter fun i => (Array.replicate ops.size false).getD i false) = [] := List.filter_eq_nil_iff.2 fun i _ => by
        simp only [Array.getD_eq_getD_getElem?, Array.getElem?_replicate]
        split <;> simp
      rw [this]
      exact ⟨G, X0, hX, hr.drew⟩))
open Classical in
noncomputable def effOr2 (TT : TTab) (PT : PTab) (ops : Array Oper) (k0 : Nat) (σ0 : AS) (o0 : Oper) (e0 : Ef) (σ1 : AS) (o1 : Oper) (e1 : Ef) (id : Nat) (σ : AS) (o : Oper) : Option Ef :=
  if o = o0 ∧ σ = σ0 then some e0 else if o = o1 ∧ σ = σ1 then some e1 else match effA TT PT ops id σ o with
  | some e => if k0 ∈ e.fp ∨ k0 ∈ e.keys then none else some e
  | none => none
theorem s_drawW2 (hP : P.follows .mixedOrders = true) (hTT : TTok P TT) (hPT : PTok P PT) {σ0 σ1 : AS} {o0 o1 : Oper} {e0 e1 : Ef} (he0 : ∀ D, Ok1 (EffOkR P B.ro (RW (B.d D) k0 mk Inv) ops σ0 o0 e0)) (he1 : ∀ D, Ok1 (EffOkR P B.ro (RW (B.d D) k0 mk Inv) ops σ1 o1 e1))
    {id q : Nat} {σ σb σ' : AS} {X0 : ι} {Q : Exit → AS → Prop} (h0 : σ = σb.plus k0 (mk X0)) (hX : Inv X0) (h : runG (effOr2 TT PT ops k0 σ0 o0 e0 σ1 o1 e1) ops.toList q σb = some (σ', es)) (hok : ordOk ops.toList es = true) (k : ∀ X, Inv X → Q .normal (σ'.plus k0 (mk X))) : SP P B (.region id ops true) σ Q := by
  refine s_drawW hP (fun D id σ o e he => ?_) h0 hX h hok k
  unfold effOr2 at he
  split at he
  · rename_i hc
    obtain ⟨rfl, rfl⟩ := hc
    cases he
    exact (he0 D).h
  · split at he
    · rename_i hc
      obtain ⟨rfl, rfl⟩ := hc
      cases he
      exact (he1 D).h
    · split at he
      · rename_i e2 he2
        split at he
        · cases he
        · rename_i hn
          cases he
          rw [not_or] at hn
          exact EffOk.w (B := B.d D) (effA_eff hTT hPT he2) hn.1 hn.2
      · cases he
theorem s_drawW3 (hP : P.follows .mixedOrders = true) (hTT : TTok P TT) (hPT : PTok P PT) {σ0 σ1 : AS} {o0 o1 : Oper} {e0 e1 : Ef} (he0 : ∀ D, Ok1 (EffOkR P B.ro (RW (B.d D) k0 mk Inv) ops σ0 o0 e0)) (he1 : ∀ D, Ok1 (EffOkR P B.ro (RW (B.d D) k0 mk Inv) ops σ1 o1 e1))
    {id q n : Nat} {slots : List (Nat × AV)} {objs : List (Nat × AObj)} {ids : List Nat} {n' : Nat} {slots' : List (Nat × AV)} {objs' : List (Nat × AObj)} {ids' : List Nat} {X0 : ι} {Q : Exit → AS → Prop} (hX : Inv X0) (h : runG (effOr2 TT PT ops k0 σ0 o0 e0 σ1 o1 e1) ops.toList q ⟨n, slots, objs, ids⟩ = some (⟨n', slots', objs', ids'⟩, es)) (hok : ordOk ops.toList es = true) (k : ∀ X, Inv X → Q .normal ⟨n', slots', (k0, mk X) :: objs', ids'⟩) : SP P B (.region id ops true) ⟨n, slots, (k0, mk X0) :: objs, ids⟩ Q :=
  s_drawW2 hP hTT hPT he0 he1 (σb := ⟨n, slots, objs, ids⟩) rfl hX h hok k
theorem runW_cons {σ0 σ2 : AS} {o0 o2 : Oper} {e0 e2 e : Ef} {id : Nat} {o : Oper} {r : List Oper} {σ σ1 σ' : AS} (hne : o.dst ≠ o0.dst) (hne2 : o.dst ≠ o2.dst) (h : effA TT PT ops id σ o = some e) (h1 : e.app σ = σ1) (hk : (e.fp.contains k0 || e.keys.contains k0) = false) (k : runG (effOr2 TT PT ops k0 σ0 o0 e0 σ2 o2 e2) r (id + 1) σ1 = some (σ', es)) : runG (effOr2 TT PT ops k0 σ0 o0 e0 σ2 o2 e2) (o :: r) id σ = some (σ', e :: es) := by
  have : effOr2 TT PT ops k0 σ0 o0 e0 σ2 o2 e2 id σ o = some e := by
    unfold effOr2
    rw [if_neg (fun hc => hne (by rw [hc.1])), if_neg (fun hc => hne2 (by rw [hc.1])), h]
    simp only [Bool.or_eq_false_iff] at hk
    exact if_neg (fun hc => by
      rcases hc with hc | hc
      · have := hk.1; simp [hc] at this
      · have := hk.2; simp [hc] at this)
  simp only [runG, this, h1, k]
theorem runW_call {σ0 σ2 : AS} {o0 o2 : Oper} {e0 e2 : Ef} {id : Nat} {r : List Oper} {σ1 σ' : AS} (h1 : e0.app σ0 = σ1) (k : runG (effOr2 TT PT ops k0 σ0 o0 e0 σ2 o2 e2) r (id + 1) σ1 = some (σ', es)) : runG (effOr2 TT PT ops k0 σ0 o0 e0 σ2 o2 e2) (o0 :: r) id σ0 = some (σ', e0 :: es) := by
  have : effOr2 TT PT ops k0 σ0 o0 e0 σ2 o2 e2 id σ0 o0 = some e0 := by
    unfold effOr2
    rw [if_pos ⟨rfl, rfl⟩]
  simp only [runG, this, h1, k]
theorem runW_call2 {σ0 σ2 : AS} {o0 o2 : Oper} {e0 e2 : Ef} {id : Nat} {r : List Oper} {σ1 σ' : AS} (hne : o2.dst ≠ o0.dst) (h1 : e2.app σ2 = σ1) (k : runG (effOr2 TT PT ops k0 σ0 o0 e0 σ2 o2 e2) r (id + 1) σ1 = some (σ', es)) : runG (effOr2 TT PT ops k0 σ0 o0 e0 σ2 o2 e2) (o2 :: r) id σ2 = some (σ', e2 :: es) := by
  have : effOr2 TT PT ops k0 σ0 o0 e0 σ2 o2 e2 id σ2 o2 = some e2 := by
    unfold effOr2
    rw [if_neg (fun hc => hne (by rw [hc.1])), if_pos ⟨rfl, rfl⟩]
  simp only [runG, this, h1, k]
end
end Go.Proofs.Ytekeidhndlnghaa
