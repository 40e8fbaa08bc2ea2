/- An abstract machine for the text, part twenty: calls that return objects of their own; families of rows; plain lemmas over any program; no condition. -/
import Derived.Test.YtafikekndefjcaaDoorAmB
namespace Go.Proofs.YtafikekndefjcaaDoor
set_option linter.unusedVariables false
set_option linter.unusedSimpArgs false
set_option linter.unusedSectionVars false
open Go.RowKit
section obj
variable {P : Program} {TT : TTab} {PT : PTab}
def base0 (S : Nat → Nat → Option Value) (w : World) : Base := { w0 := w, S0 := S, bs := [] }
def Within (res : AV) (objs : List (Nat × AObj)) (ids : List Nat) : Prop := (∀ k ∈ res.ids, k ∈ ids) ∧ ∀ k ob, lk objs k = some ob → k ∈ ids ∧ ∀ q ∈ idsLL ob.xs, q ∈ ids
def FnObj (P : Program) (f : FuncId) (args : List AV) (res : AV) (objs : List (Nat × AObj)) (ids : List Nat) : Prop :=
  Within res objs ids ∧ ∀ (S : Nat → Nat → Option Value) (w : World) (vs : Array Value), StOk S w → vs.size = args.length → (∀ i, i < args.length → Rv (G0 S) (args.getD i .any) (vs.getD i undef)) →
    Calls P f vs w fun e w' => ∃ v G' a', e = .returned v ∧ R (base0 S w) G' ⟨a'.tmps.size, [], objs, ids⟩ w' a' ∧ Rv G' res v
def PostO (TT : TTab) (fn : Func) (res : AV) (objs : List (Nat × AObj)) (e : Exit) (σ : AS) : Prop :=
  (e = .normal ∨ e = .ret) ∧ ∃ av, retA TT σ fn.results.toList = some av ∧ ∃ ρ : Nat → Nat, res.ren ρ = av ∧ (∀ k ob, lk objs k = some ob → lk σ.objs (ρ k) = some ⟨ob.t, ob.sz, renLL ρ ob.xs⟩) ∧ ∀ k ob k' ob', lk objs k = some ob → lk objs k' = some ob' → ρ k = ρ k' → k = k'
theorem fn_obj (hTT : TTok P TT) {f : FuncId} {fn : Func} {c : Code} (hf : P.funcs[f]? = some fn) (hb : fn.body = some c) {args : List AV} {res : AV} {objs : List (Nat × AObj)} {ids : List Nat} (hn : args.length ≤ fn.ntmps) (hw : Within res objs ids)
    (h : ∀ B : Base, B.I0 = [] → B.ro = none → SP P B c ⟨fn.ntmps, enumA 0 args, [], []⟩ (PostO TT fn res objs)) : FnObj P f args res objs ids := by
  refine ⟨hw, fun S w vs hS hvs hargs => ?_⟩
  have h0 : R (Base.d (base0 S w) []) (G0 S) ⟨fn.ntmps, enumA 0 args, [], []⟩ w { tmps := vs ++ Array.replicate (fn.ntmps - vs.size) undef, defers := [] } :=
    ⟨by simp; omega, entry_slots hn hvs hargs, rfl, ⟨rfl, rfl, rfl, Nat.le_refl _, fun _ _ _ => rfl, fun k o hk => by simp [lk] at hk, fun k o hk => by simp [lk] at hk, fun k k' o o' hk => by simp [lk] at hk, hS.1, fun k o hk => by simp [lk] at hk, fun b o u h => .inl h, fun b o u h => h, fun k l hk => (by cases hk), fun r hr => (by cases hr), ⟨List.nodup_nil, fun k l hk => (by cases hk), hS.2⟩⟩, fun k hk => by simp [G0] at hk⟩
  refine (call_sp hTT hf hb rfl h0 (K := fun av τ => ∃ ρ : Nat → Nat, res.ren ρ = av ∧ (∀ k ob, lk objs k = some ob → lk τ.objs (ρ k) = some ⟨ob.t, ob.sz, renLL ρ ob.xs⟩) ∧ ∀ k ob k' ob', lk objs k = some ob → lk objs k' = some ob' → ρ k = ρ k' → k = k') (sp_mono (h (base0 S w) rfl rfl) fun e τ h => h)).mono fun e w' hq => ?_
  obtain ⟨v, G', τ, av, a', rfl, hr', h2, ρ, rfl, g1, g2⟩ := hq
  have hwk := hr'.weakG (τ := ⟨τ.n, [], objs, ids⟩) ρ rfl (fun t av ht => by cases ht) (fun k ob hk => ⟨g1 k ob hk, (hw.2 k ob hk).1, (hw.2 k ob hk).2⟩) g2 (fun k hk => by cases hk)
  refine ⟨v, ⟨G'.S, fun k => if k ∈ ids then G'.loc (ρ k) else none⟩, a', rfl, ?_, Rv.renamed (G := G') (G' := ⟨G'.S, fun k => if k ∈ ids then G'.loc (ρ k) else none⟩) ρ (fun _ _ _ h => h) h2 fun k hk l hl => ?_⟩
  · rw [hr'.n]; exact hwk
  · show (if k ∈ ids then G'.loc (ρ k) else none) = some l
    rw [if_pos (hw.1 k hk)]; exact hl
def shO (q : Nat) (objs : List (Nat × AObj)) : List (Nat × AObj) := objs.map fun p => (p.1 + q, ⟨p.2.t, p.2.sz, renLL (· + q) p.2.xs⟩)
theorem lk_shO (q : Nat) : ∀ (objs : List (Nat × AObj)) (k : Nat), lk (shO q objs) k = if q ≤ k then (lk objs (k - q)).map (fun ob => ⟨ob.t, ob.sz, renLL (· + q) ob.xs⟩) else none
  | [], k => by simp [shO, lk]
  | (j, ob) :: r, k => by
    have ih := lk_shO q r k
    simp only [shO, List.map_cons, lk] at ih ⊢
    rw [ih]
    by_cases h : q ≤ k
    · rw [if_pos h, if_pos h]
      by_cases e : j = k - q
      · rw [if_pos (by omega), if_pos e]; rfl
      · rw [if_neg (by omega), if_neg e]
    · rw [if_neg h, if_neg h, if_neg (by omega)]
theorem lk_append {α : Type} : ∀ (l m : List (Nat × α)) (k : Nat), lk (l ++ m) k = match lk l k with | some x => some x | none => lk m k
  | [], m, k => by simp [lk]
  | (j, x) :: l, m, k => by
    simp only [List.cons_append, lk]
    split
    · rfl
    · exact lk_append l m k
mutual
theorem AV.ren_ren (ρ τ : Nat → Nat) : ∀ a : AV, (a.ren ρ).ren τ = a.ren (fun k => τ (ρ k))
  | .any => by simp [AV.ren]
  | .v _ => by simp [AV.ren]
  | .agg cs => by simp only [AV.ren]; rw [renL_ren ρ τ cs]
  | .tup cs => by simp only [AV.ren]; rw [renL_ren ρ τ cs]
  | .sl _ xs => by simp only [AV.ren]; rw [renLL_ren ρ τ xs]
  | .pt cs => by simp only [AV.ren]; rw [renL_ren ρ τ cs]
  | .ref _ _ _ => by simp [AV.ren]
  | .ptr _ _ _ => by simp [AV.ren]
  | .clo _ cs => by simp only [AV.ren]; rw [renL_ren ρ τ cs]
  | .bnd _ cs => by simp only [AV.ren]; rw [renL_ren ρ τ cs]
  | .yld _ => by simp [AV.ren]
  | .mp _ => by simp [AV.ren]
theorem renL_ren (ρ τ : Nat → Nat) : ∀ cs : List AV, renL τ (renL ρ cs) = renL (fun k => τ (ρ k)) cs
  | [] => by simp [renL]
  | c :: cs => by simp only [renL]; rw [AV.ren_ren ρ τ c, renL_ren ρ τ cs]
theorem renLL_ren (ρ τ : Nat → Nat) : ∀ cs : List (List AV), renLL τ (renLL ρ cs) = renLL (fun k => τ (ρ k)) cs
  | [] => by simp [renLL]
  | c :: cs => by simp only [renLL]; rw [renL_ren ρ τ c, renLL_ren ρ τ cs]
end
theorem sub_add (q : Nat) : (fun k => (k + q) - q) = fun k : Nat => k := by funext k; omega
mutual
theorem ids_ren (ρ : Nat → Nat) : ∀ a : AV, (a.ren ρ).ids = a.ids.map ρ
  | .any => by simp [AV.ren, AV.ids]
  | .v _ => by simp [AV.ren, AV.ids]
  | .agg cs => by simp only [AV.ren, AV.ids]; rw [idsL_ren ρ cs]
  | .tup cs => by simp only [AV.ren, AV.ids]; rw [idsL_ren ρ cs]
  | .sl _ xs => by simp only [AV.ren, AV.ids]; rw [idsLL_ren ρ xs]
  | .pt cs => by simp only [AV.ren, AV.ids]; rw [idsL_ren ρ cs]
  | .ref _ _ _ => by simp [AV.ren, AV.ids]
  | .ptr _ _ _ => by simp [AV.ren, AV.ids]
  | .clo _ cs => by simp only [AV.ren, AV.ids]; rw [idsL_ren ρ cs]
  | .bnd _ cs => by simp only [AV.ren, AV.ids]; rw [idsL_ren ρ cs]
  | .yld _ => by simp [AV.ren, AV.ids]
  | .mp _ => by simp [AV.ren, AV.ids]
theorem idsL_ren (ρ : Nat → Nat) : ∀ cs : List AV, idsL (renL ρ cs) = (idsL cs).map ρ
  | [] => by simp [renL, idsL]
  | c :: cs => by simp only [renL, idsL]; rw [ids_ren ρ c, idsL_ren ρ cs, List.map_append]
theorem idsLL_ren (ρ : Nat → Nat) : ∀ cs : List (List AV), idsLL (renLL ρ cs) = (idsLL cs).map ρ
  | [] => by simp [renLL, idsLL]
  | c :: cs => by simp only [renLL, idsLL]; rw [idsL_ren ρ c, idsLL_ren ρ cs, List.map_append]
end
theorem R.gain {B : Base} {G : Gh} {σ : AS} {w : World} {a : Act} (hr : R B G σ w a) {objs : List (Nat × AObj)} {ids : List Nat} {q : Nat} (hq : ∀ i ∈ ids, i + q ∉ σ.ids) {res : AV} (hw : Within res objs ids) {G2 : Gh} {n2 : Nat} {w2 : World} {a2 : Act} {v : Value}
    (h2 : R (base0 G.S w) G2 ⟨n2, [], objs, ids⟩ w2 a2) (hv : Rv G2 res v) : ∃ G', G.le G' ∧ R B G' ⟨σ.n, σ.slots, shO q objs ++ σ.objs, ids.map (· + q) ++ σ.ids⟩ w2 a ∧ Rv G' (res.ren (· + q)) v := by
  have hback : ∀ xs : List (List AV), renLL (fun k => k - q) (renLL (· + q) xs) = xs := fun xs => by rw [renLL_ren, sub_add, renLL_id]
  have h3 := h2.weakG (τ := ⟨n2, [], shO q objs, ids.map (· + q)⟩) (fun k => k - q) rfl (fun t av ht => by cases ht) (fun k ob hk => by
    replace hk : lk (shO q objs) k = some ob := hk
    rw [lk_shO] at hk
    split at hk
    · rename_i hqk
      simp only [Option.map_eq_some_iff] at hk
      obtain ⟨ob', h4, rfl⟩ := hk
      obtain ⟨h5, h6⟩ := hw.2 _ _ h4
      refine ⟨by rw [hback]; exact h4, List.mem_map.2 ⟨k - q, h5, by omega⟩, fun j hj => ?_⟩
      rw [idsLL_ren] at hj
      obtain ⟨i, hi, rfl⟩ := List.mem_map.1 hj
      exact List.mem_map.2 ⟨i, h6 i hi, rfl⟩
    · cases hk) (fun k ob k' ob' hk hk' e => by
    replace hk : lk (shO q objs) k = some ob := hk
    replace hk' : lk (shO q objs) k' = some ob' := hk'
    rw [lk_shO] at hk hk'
    split at hk
    · split at hk'
      · omega
      · cases hk'
    · cases hk) (fun k hk => by cases hk)
  have hv3 : Rv (⟨G2.S, fun k => if k ∈ ids.map (· + q) then G2.loc (k - q) else none⟩ : Gh) (res.ren (· + q)) v := by
    refine Rv.renamed (G := G2) (G' := ⟨G2.S, fun k => if k ∈ ids.map (· + q) then G2.loc (k - q) else none⟩) (fun k => k - q) (fun _ _ _ h => h) ?_ fun k hk l hl => ?_
    · rw [AV.ren_ren, sub_add, AV.ren_id]; exact hv
    · show (if k ∈ ids.map (· + q) then G2.loc (k - q) else none) = some l
      rw [ids_ren] at hk
      obtain ⟨i, hi, rfl⟩ := List.mem_map.1 hk
      rw [if_pos (List.mem_map.2 ⟨i, hw.1 i hi, rfl⟩)]; exact hl
  obtain ⟨G', g1, g2, g3⟩ := hr.backF (fs := []) (ids := []) (objs := []) (fun k => by simp [lk]) (fun k hk => by cases hk) (τ := ⟨n2, [], shO q objs, ids.map (· + q)⟩) (w2 := w2) (a2 := a2) (by
    have e : (Base.sub (G.only []) ⟨σ.n, [], [], []⟩ w none).d [] = base0 G.S w := by
      simp only [Base.sub, Base.d, base0, Gh.only, blocks, List.filterMap_nil]
      congr
    rw [e]; exact h3) (fun k hk _ hn => by
      obtain ⟨i, hi, rfl⟩ := List.mem_map.1 hk
      exact hq i hi hn)
  refine ⟨G', g2, StEq.R (σ := σ.upd ((ids.map (· + q)).reverse.map fun k => (k, lk (shO q objs) k))) (τ := ⟨σ.n, σ.slots, shO q objs ++ σ.objs, ids.map (· + q) ++ σ.ids⟩) ⟨rfl, fun _ => rfl, fun k => ?_, fun k => ?_⟩ g3, hv3.mono g1⟩
  · have e1 := lk_updMap (fun k => lk (shO q objs) k) k (ids.map (· + q)).reverse σ.objs
    show lk (updO σ.objs ((ids.map (· + q)).reverse.map fun k => (k, lk (shO q objs) k))) k = lk (shO q objs ++ σ.objs) k
    rw [e1, lk_append]
    by_cases hk : k ∈ ids.map (· + q)
    · rw [if_pos (List.mem_reverse.2 hk)]
      cases h : lk (shO q objs) k with
      | some x => rfl
      | none =>
        cases h4 : lk σ.objs k with
        | none => rfl
        | some ob =>
          exfalso
          obtain ⟨blk, base, cap, hl, _⟩ := hr.heap.obj k ob h4
          obtain ⟨i, hi, rfl⟩ := List.mem_map.1 hk
          exact hq i hi (hr.ids _ (by rw [hl]; simp))
    · rw [if_neg (fun h => hk (List.mem_reverse.1 h))]
      have : lk (shO q objs) k = none := by
        rw [lk_shO]
        split
        · rename_i hqk
          cases h : lk objs (k - q) with
          | none => rfl
          | some ob => exact absurd (List.mem_map.2 ⟨k - q, (hw.2 _ _ h).1, by omega⟩) hk
        · rfl
      rw [this]
  · show k ∈ updI σ.ids _ ↔ k ∈ ids.map (· + q) ++ σ.ids
    rw [updI_mem]
    simp [List.mem_append, List.mem_map]
theorem spl_obj {B : Base} {σ : AS} {Q : Exit → AS → Prop} {ops : Array Oper} {o : Oper} {r : List Oper} {f : FuncId} {avs : List AV} {res : AV} {objs : List (Nat × AObj)} {ids : List Nat} (hF : FnObj P f avs res objs ids) (q : Nat) (hq : ∀ i ∈ ids, i + q ∉ σ.ids)
    (hd : dstOk σ o = true) (hw : wantA σ ops o = some true) (hen : Enters P o σ f avs) (hp : idsL avs = []) (hnd : ∀ c, o.op ≠ .defer c)
    (k : SPL P B ops r (AS.put ⟨σ.n, σ.slots, shO q objs ++ σ.objs, ids.map (· + q) ++ σ.ids⟩ o.dst (res.ren (· + q))) Q) : SPL P B ops (o :: r) σ Q := fun D G w a hr => by
  unfold wpListIn
  rw [if_pos (wantA_ok hr hw)]
  obtain ⟨argv, hop, h1, h2⟩ := hen (B.d D) G w a hr
  refine ⟨fun _ _ => trivial, ?_⟩
  rw [show (FR B.ro).round = B.ro from rfl, Oper.semAt_eq B.ro a.eval o hnd, hop, Oper.uponIn_enter]
  refine ⟨fun e => (by cases e), FR_calls.2 ?_⟩
  refine (hF.2 G.S w argv hr.heap.stOk h1 (fun i hi => Rv.pure (G := G) (G' := G0 G.S) (fun _ _ _ h => h) (h2 i hi) (by
      refine List.eq_nil_iff_forall_not_mem.2 fun j hj => ?_
      have := idsL_mem hi hj
      rw [hp] at this; cases this))).mono fun e w' hl => ?_
  obtain ⟨v, G2, a2, rfl, h3, h4⟩ := hl
  obtain ⟨G', g1, g2, g3⟩ := hr.gain hq hF.1 h3 h4
  exact k D G' w' _ (g2.put (fun d hdd => R.dst (G := G) (w := w) (a := a) (σ := σ) hd d hdd) g3)
end obj
/-! ### Families of rows -/
def famI (t : TypeId) (b : Nat) (M : List (List Int)) : List (Nat × AObj) := M.mapIdx fun j c => (b + j, ⟨t, 1, c.map fun x => [.v (.int .i64 x)]⟩)
def refsI (b : Nat) (M : List (List Int)) : List (List AV) := M.mapIdx fun j c => [.ref (b + j) 0 c.length]
theorem lk_famI (t : TypeId) : ∀ (M : List (List Int)) (b k : Nat), lk (famI t b M) k = if b ≤ k ∧ k < b + M.length then some ⟨t, 1, (M.getD (k - b) []).map fun x => [.v (.int .i64 x)]⟩ else none
  | [], b, k => by simp [famI, lk]
  | c :: M, b, k => by
    have ih := lk_famI t M (b + 1) k
    have e : famI t b (c :: M) = (b, ⟨t, 1, c.map fun x => [.v (.int .i64 x)]⟩) :: famI t (b + 1) M := by
      unfold famI
      rw [List.mapIdx_cons]
      congr 1
      · congr 1
        funext j c
        rw [show b + (j + 1) = b + 1 + j by omega]
    rw [e]
    simp only [lk, List.length_cons]
    rw [ih]
    by_cases h : b = k
    · subst h
      rw [if_pos rfl, if_pos (by omega)]; simp
    · rw [if_neg h]
      by_cases h2 : b + 1 ≤ k ∧ k < b + 1 + M.length
      · rw [if_pos h2, if_pos (by omega)]
        rw [show k - b = (k - (b + 1)) + 1 by omega, List.getD_cons_succ]
      · rw [if_neg h2, if_neg (by omega)]
theorem refsI_len (b : Nat) (M : List (List Int)) : (refsI b M).length = M.length := by simp [refsI]
theorem refsI_get {b : Nat} {M : List (List Int)} {j : Nat} (h : j < M.length) : (refsI b M).getD j [] = [.ref (b + j) 0 (M.getD j []).length] := by
  simp [refsI, List.getD, List.getElem?_mapIdx, h]
theorem refsI_snoc (b : Nat) (M : List (List Int)) (c : List Int) : refsI b (M ++ [c]) = refsI b M ++ [[.ref (b + M.length) 0 c.length]] := by
  simp [refsI, List.mapIdx_append]
theorem ids_refsI (b : Nat) (M : List (List Int)) {k : Nat} (h : k ∈ idsLL (refsI b M)) : b ≤ k ∧ k < b + M.length := by
  have key : ∀ (M : List (List Int)) (b : Nat), k ∈ idsLL (refsI b M) → b ≤ k ∧ k < b + M.length := by
    intro M
    induction M with
    | nil => intro b h; simp [refsI, idsLL] at h
    | cons c M ih =>
      intro b h
      have e : refsI b (c :: M) = [.ref b 0 c.length] :: refsI (b + 1) M := by
        unfold refsI
        rw [List.mapIdx_cons]
        congr 1
        congr 1
        funext j c
        rw [show b + (j + 1) = b + 1 + j by omega]
      rw [e] at h
      simp only [idsLL, idsL, AV.ids, List.append_nil, List.mem_append, List.mem_singleton] at h
      rcases h with rfl | h
      · simp only [List.length_cons]; omega
      · have := ih (b + 1) h
        simp only [List.length_cons]; omega
  exact key M b h
theorem ren_refsI (ρ : Nat → Nat) (b b' : Nat) (M N : List (List Int)) (hl : N.length = M.length) (h : ∀ j, j < M.length → ρ (b + j) = b' + j) (hc : ∀ j, j < M.length → (M.getD j []).length = (N.getD j []).length) : renLL ρ (refsI b M) = refsI b' N := by
  apply List.ext_getElem
  · rw [renLL_len, refsI_len, refsI_len, hl]
  · intro i h1 h2
    rw [renLL_len, refsI_len] at h1
    have e1 : (renLL ρ (refsI b M)).getD i [] = [.ref (b' + i) 0 (N.getD i []).length] := by
      rw [renLL_getD, refsI_get h1]
      simp only [renL, AV.ren, h i h1, hc i h1]
    have e2 := refsI_get (b := b') (M := N) (j := i) (by omega)
    have e3 : ∀ (l : List (List AV)) (hi : i < l.length), l.getD i [] = l[i] := fun l hi => by simp [List.getD, hi]
    rw [e3 _ (by rw [renLL_len, refsI_len]; exact h1)] at e1
    rw [e3 _ (by rw [refsI_len]; omega)] at e2
    rw [e1, e2]
theorem shO_famI (q : Nat) (t : TypeId) (b : Nat) (M : List (List Int)) : shO q (famI t b M) = famI t (b + q) M := by
  unfold shO famI
  apply List.ext_getElem
  · simp
  · intro i h1 h2
    simp only [List.getElem_map, List.getElem_mapIdx]
    refine Prod.ext (by show b + i + q = b + q + i; omega) ?_
    show (⟨t, 1, renLL (· + q) _⟩ : AObj) = _
    rw [renLL_pure]
    induction M[i]'(by simpa using h1) with
    | nil => simp [idsLL]
    | cons x r ih => simpa [idsLL, idsL, AV.ids] using ih
theorem shO_append (q : Nat) (l m : List (Nat × AObj)) : shO q (l ++ m) = shO q l ++ shO q m := by simp [shO]
theorem shO_cons (q : Nat) (p : Nat × AObj) (m : List (Nat × AObj)) : shO q (p :: m) = (p.1 + q, ⟨p.2.t, p.2.sz, renLL (· + q) p.2.xs⟩) :: shO q m := by simp [shO]
theorem ren_refsI_add (q b : Nat) (M : List (List Int)) : renLL (· + q) (refsI b M) = refsI (b + q) M := ren_refsI _ _ _ _ _ rfl (fun j _ => by show b + j + q = b + q + j; omega) (fun _ _ => rfl)
end Go.Proofs.YtafikekndefjcaaDoor
