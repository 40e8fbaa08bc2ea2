/- censuslaw05.spoil, on rows that are objects; a call that is lent some objects; no condition. -/
import Derived.Test.YtkollnaojpppcaaOb6
namespace Go.Proofs.Ytkollnaojpppcaa
set_option linter.unusedVariables false
set_option linter.unusedSimpArgs false
set_option linter.unusedSectionVars false
open Go.RowKit
attribute [local simp] List.getD_cons_zero List.getD_cons_succ List.getD_nil undef gvars runL runE effA stepA dstOk wantA core lk st dl AS.ev AS.evs AS.put AS.upd updO updI nxt cPick cAlloc cBox cBuild cBuildS cLoad cStore cNil plainOf cBin cNilS isNilS nilA cUn cConvX cConvB cConv bytesOf rowB cMake cSlice slA idxA cFA cF cIA cIX cIS cI cExt cLen cApp cMM cFun cCall lenA lenM isNilM nilM cNilM cMakeM hintB cMapK cLook foundR lookR cUpd putM cDel delM findA isKeyB Instr.sameNow AS.entry AS.bound AS.callee sc1 sc2 ixOk ldA AV.flat AV.cell AV.cells Value.oneCell' fillA spl chunk zeros AS.parts AS.rows AS.shut AS.shut1 AS.shut2 AS.shutL AS.shutM AV.ids idsL idsLL eqAll bndA AV.scalar AV.scalar1 AV.isV Ef.app Ef.pk ptOf pntO wrO wr
attribute [-simp] List.getD_eq_getElem?_getD
set_option maxRecDepth 100000
section
variable {P : Program} {TT : TTab} {PT : PTab} {B : Base} {ops : Array Oper}
theorem spl_famE {Q : Exit → AS → Prop} {r : List Oper} {n b : Nat} {t : TypeId} {slots : List (Nat × AV)} {x : Nat × AObj} {E : List (Nat × AObj)} {M : List (List Int)} {ids : List Nat} (hE : ∀ p ∈ E, p.1 < b) (k : SPL P B ops r ⟨n, slots, x :: (E ++ famI t b M), ids⟩ Q) : SPL P B ops r ⟨n, slots, x :: (famI t b M ++ E), ids⟩ Q := fun D G w a hr => k D G w a (StEq.R (σ := ⟨n, slots, x :: (famI t b M ++ E), ids⟩) (τ := ⟨n, slots, x :: (E ++ famI t b M), ids⟩) ⟨rfl, fun _ => rfl, fun q => by
    obtain ⟨y, ob⟩ := x
    show lk ((y, ob) :: (famI t b M ++ E)) q = lk ((y, ob) :: (E ++ famI t b M)) q
    simp only [lk]
    split
    · rfl
    · rw [lk_append, lk_append, lk_famI]
      by_cases hq : b ≤ q ∧ q < b + M.length
      · rw [if_pos hq]
        cases h : lk E q with
        | none => rfl
        | some ob => have := hE _ (mem_lk h); dsimp only at this; omega
      · rw [if_neg hq]
        cases h : lk E q <;> rfl, fun _ => Iff.rfl⟩ hr)
theorem spl_lend (hTT : TTok P TT) {σ : AS} {Q : Exit → AS → Prop} {o : Oper} {r : List Oper} {x : Operand} {args : Array Operand} {ts : Array TypeId} {avs : List AV} {f : FuncId} {L : List AV} {fn : Func} {c : Code}
    (ho : o.op = .call { callee := .value x, args := args, argTypes := ts }) (hd : dstOk σ o = true) (hwt : wantA σ ops o = some true) (havs : σ.evs args.toList = some avs) (hent : σ.entry x avs = some (f, L)) (hfn : fnB P f = true) (hf : P.funcs[f]? = some fn) (hb : fn.body = some c) (hle : L.length ≤ fn.ntmps)
    (objs : List (Nat × AObj)) (fs : List Nat) (hF : ∀ k, lk objs k = if k ∈ fs then lk σ.objs k else none) (hL : ∀ k ∈ idsL L, k ∈ fs) (hcl : ∀ k ∈ fs, ∀ ob, lk σ.objs k = some ob → ∀ q ∈ idsLL ob.xs, q ∈ fs) {av : AV} (hav : av.ids = []) (objs' : List (Nat × AObj)) (ids' : List Nat) (hnew : ∀ k ∈ ids', k ∈ fs ∨ k ∉ σ.ids)
    (h : ∀ B' : Base, B'.I0 = fs → B'.ro = none → SP P B' c ⟨fn.ntmps, enumA 0 L, objs, fs⟩ (fun e τ => (e = .normal ∨ e = .ret) ∧ ∃ av', retA TT τ fn.results.toList = some av' ∧ (av' = av ∧ WeakI fs ⟨τ.n, [], τ.objs, τ.ids⟩ ⟨τ.n, [], objs', ids'⟩)))
    (k : SPL P B ops r (AS.put (σ.upd (ids'.map fun k => (k, lk objs' k))) o.dst av) Q) : SPL P B ops (o :: r) σ Q := fun D G w a hr => by
  unfold wpListIn
  rw [if_pos (wantA_ok hr hwt)]
  obtain ⟨argv, hop, h1, h2⟩ := enters_entry ho hfn hent havs (B.d D) G w a hr
  refine ⟨fun _ _ => trivial, ?_⟩
  rw [show (FR B.ro).round = B.ro from rfl, Oper.semAt_eq B.ro a.eval o (fun c hc => by rw [ho] at hc; cases hc), hop, Oper.uponIn_enter]
  refine ⟨fun e => (by cases e), FR_calls.2 ?_⟩
  have hsub := hr.subF hF (fun k hk => hk) hcl (n := fn.ntmps) (slots := enumA 0 L) (a' := { tmps := argv ++ Array.replicate (fn.ntmps - argv.size) undef, defers := [] }) (by simp; omega) (fun t av ht => by
    obtain ⟨q1, q2⟩ := entry_slots (m := fn.ntmps - argv.size) hle h1 h2 t av ht
    refine ⟨q1, q2, fun k hk => hL k ?_⟩
    obtain ⟨_, q3, q4⟩ := lk_enumA L 0 t av ht
    simp only [Nat.zero_add, Nat.sub_zero] at q3 q4
    subst q4
    exact idsL_mem q3 hk) rfl
  refine (call_sp hTT hf hb rfl hsub (K := fun av' τ' => av' = av ∧ WeakI fs ⟨τ'.n, [], τ'.objs, τ'.ids⟩ ⟨τ'.n, [], objs', ids'⟩) (h _ rfl rfl)).mono fun e w' hq => ?_
  obtain ⟨v, G2, τ1, av2, a2, rfl, hr1, hv, rfl, _, ρ, _, g2, g3, g4⟩ := hq
  have hr2 := hr1.weakG (τ := ⟨τ1.n, [], objs', ids'⟩) ρ rfl (fun t av ht => by cases ht) g2 g3 g4
  have hv2 : Rv (⟨G2.S, fun k => if k ∈ ids' then G2.loc (ρ k) else none⟩ : Gh) av2 v := Rv.pure (G := G2) (G' := ⟨G2.S, fun k => if k ∈ ids' then G2.loc (ρ k) else none⟩) (fun _ _ _ h => h) hv hav
  generalize hG3 : (⟨G2.S, fun k => if k ∈ ids' then G2.loc (ρ k) else none⟩ : Gh) = G3 at hv2
  replace hr2 : R ((Base.sub (G.only fs) ⟨σ.n, [], objs, fs⟩ w none).d []) G3 ⟨τ1.n, [], objs', ids'⟩ w' a2 := hG3 ▸ hr2
  obtain ⟨G', hle2, hle', hr3⟩ := hr.backF hF (fun k hk => hk) hr2 (fun k hk hkf => (hnew k hk).resolve_left hkf)
  have h4 : R (B.d D) G' (σ.upd (ids'.map fun k => (k, lk objs' k))) w' a := StEq.R (σ := σ.upd (ids'.reverse.map fun k => (k, lk objs' k))) (τ := σ.upd (ids'.map fun k => (k, lk objs' k))) ⟨rfl, fun _ => rfl, fun k => ?_, fun k => ?_⟩ hr3
  · exact k D G' w' _ (h4.put (fun d hdd => R.dst (G := G) (w := w) (a := a) (σ := σ) hd d hdd) (hv2.mono hle2))
  · have e1 := lk_updMap (fun k => lk objs' k) k ids'.reverse σ.objs
    have e2 := lk_updMap (fun k => lk objs' k) k ids' σ.objs
    show lk (updO σ.objs (ids'.reverse.map fun k => (k, lk objs' k))) k = lk (updO σ.objs (ids'.map fun k => (k, lk objs' k))) k
    rw [e1, e2]
    simp only [List.mem_reverse]
  · show k ∈ updI σ.ids (ids'.reverse.map fun k => (k, lk objs' k)) ↔ k ∈ updI σ.ids (ids'.map fun k => (k, lk objs' k))
    rw [updI_mem, updI_mem]
    simp only [List.map_map, List.mem_map, List.mem_reverse, Function.comp]
end
attribute [local simp] AV.ren renL obI shO_cons lk_st lk_dl renLL_append
def spR (D : List (List Int)) (i : Nat) : List (List AV) := (List.range D.length).map fun j => if j < i then [.v (.slice none 0 0)] else [.ref (1001 + j) 0 (D.getD j []).length]
theorem spR_len (D : List (List Int)) (i : Nat) : (spR D i).length = D.length := by simp [spR]
theorem spR_zero (D : List (List Int)) : spR D 0 = refsI 1001 D := by
  apply List.ext_getElem
  · rw [spR_len, refsI_len]
  · intro i h1 h2
    simp [spR, refsI, List.getD, show i < D.length by rwa [spR_len] at h1]
theorem spR_get {D : List (List Int)} {i : Nat} (h : i < D.length) : (spR D i).getD i [] = [.ref (1001 + i) 0 (D.getD i []).length] := by simp [spR, List.getD, h]
theorem spR_set {D : List (List Int)} {i : Nat} (h : i < D.length) : (spR D i).set i [.v (.slice none 0 0)] = spR D (i + 1) := by
  apply List.ext_getElem
  · simp [spR]
  · intro j h1 h2
    rw [List.getElem_set]
    have hj : j < D.length := by rwa [spR_len] at h2
    by_cases e : i = j
    · subst e; simp [spR]
    · rw [if_neg e]
      simp only [spR, List.getElem_map, List.getElem_range]
      by_cases h3 : j < i
      · rw [if_pos h3, if_pos (by omega)]
      · rw [if_neg h3, if_neg (by omega)]
theorem spR_ids {D : List (List Int)} {i q : Nat} (h : q ∈ idsLL (spR D i)) : 1001 ≤ q ∧ q < 1001 + D.length := by
  have key : ∀ l : List Nat, (∀ j ∈ l, j < D.length) → q ∈ idsLL (l.map fun j => if j < i then [.v (.slice none 0 0)] else [.ref (1001 + j) 0 (D.getD j []).length]) → 1001 ≤ q ∧ q < 1001 + D.length := by
    intro l
    induction l with
    | nil => intro _ h; simp [idsLL] at h
    | cons j l ih =>
      intro hl h
      simp only [List.map_cons, idsLL, List.mem_append] at h
      rcases h with h | h
      · have := hl j List.mem_cons_self
        split at h
        · simp [idsL, AV.ids] at h
        · simp [idsL, AV.ids] at h; omega
      · exact ih (fun k hk => hl k (List.mem_cons_of_mem _ hk)) h
  exact key _ (fun j hj => List.mem_range.1 hj) h
theorem spR_ren {D : List (List Int)} {i : Nat} {ρ : Nat → Nat} (h : ∀ j, j < D.length → ρ (1001 + j) = 1001 + j) : renLL ρ (spR D i) = spR D i := by
  apply List.ext_getElem
  · rw [renLL_len]
  · intro j h1 h2
    have e3 : ∀ (l : List (List AV)) (hi : j < l.length), l[j] = l.getD j [] := fun l hi => by simp [List.getD, hi]
    have hj : j < D.length := by rwa [spR_len] at h2
    rw [e3, e3, renLL_getD]
    have : (spR D i).getD j [] = if j < i then [.v (.slice none 0 0)] else [.ref (1001 + j) 0 (D.getD j []).length] := by simp [spR, List.getD, hj]
    rw [this]
    split <;> simp [renL, AV.ren, h j hj]
def SameLen (D M : List (List Int)) : Prop := M.length = D.length ∧ ∀ j, (M.getD j []).length = (D.getD j []).length
theorem SameLen.set {D M : List (List Int)} (h : SameLen D M) {i : Nat} {c : List Int} (hc : c.length = (M.getD i []).length) : SameLen D (M.set i c) := by
  refine ⟨by simp [h.1], fun j => ?_⟩
  rw [← h.2 j]
  by_cases hj : i < M.length
  · by_cases e : i = j
    · subst e; simp [List.getD, hj]; rw [hc]; simp [List.getD, hj]
    · simp [List.getD, List.getElem?_set, e]
  · rw [List.set_eq_of_length_le (by omega)]
set_option maxHeartbeats 1000000 in
theorem spoil_sp (N : Int) (D : List (List Int)) (hD : D.length ≤ 9223372036854775806) (hDl : ∀ j, (D.getD j []).length ≤ 9223372036854775806) (B : Base) (hI0 : B.I0 = [1000] ++ List.range' 1001 D.length) (hro : B.ro = none) :
    ∀ c, (Go.Proofs.Try.f23).body = some c → SP Try.prog B c ⟨32, enumA 0 [.agg [.v (.int .i64 N), .ref 1000 0 D.length]], [(1000, ⟨38, 1, refsI 1001 D⟩)] ++ fam 1001 D, [1000] ++ List.range' 1001 D.length⟩
      (fun e τ => (e = .normal ∨ e = .ret) ∧ ∃ av', retA TT τ (Go.Proofs.Try.f23).results.toList = some av' ∧ (av' = .tup [] ∧ WeakI ([1000] ++ List.range' 1001 D.length) ⟨τ.n, [], τ.objs, τ.ids⟩ ⟨τ.n, [], [], [1000] ++ List.range' 1001 D.length⟩)) := by
  intro c hc
  obtain rfl := (Option.some.inj hc)
  rw [Try.results23]
  simp only [enumA]
  have hz := spR_zero D
  have hrl := spR_len D
  repeat (first | with_reducible first | refine s_seq ?_ | refine k_seq ?_ | refine k_seq_ret ?_ | refine k_seq_exit ?_ | refine k_blk ?_ | refine k_blk_ret ?_ | refine k_blk_exit ?_ | refine k_lp_ret ?_ | refine k_lp_exit ?_ | refine ki_lp_ret ?_ | refine ki_lp_exit ?_ | refine s_block ?_ | refine sp_skip ?_ | refine sp_ret ?_ | refine sp_exit ?_ | ((with_reducible refine k_blk_out ?_ ?_); (focus decide)) | ((with_reducible refine s_cond_t ?_ ?_); (focus (simp [*]; done))) | ((with_reducible refine s_cond_f ?_ ?_); (focus (simp [*]; done))))
  refine s_regionL ?_
  (((with_reducible refine spl_step TT_ok PT3_ok (id := 1) (σ' := ?_) ?_ ?_); rotate_left; (focus (simp [*]; rfl))))
  refine spl_nil ?_
  repeat (first | with_reducible first | refine s_seq ?_ | refine k_seq ?_ | refine k_seq_ret ?_ | refine k_seq_exit ?_ | refine k_blk ?_ | refine k_blk_ret ?_ | refine k_blk_exit ?_ | refine k_lp_ret ?_ | refine k_lp_exit ?_ | refine ki_lp_ret ?_ | refine ki_lp_exit ?_ | refine s_block ?_ | refine sp_skip ?_ | refine sp_ret ?_ | refine sp_exit ?_ | ((with_reducible refine k_blk_out ?_ ?_); (focus decide)) | ((with_reducible refine s_cond_t ?_ ?_); (focus (simp [*]; done))) | ((with_reducible refine s_cond_f ?_ ?_); (focus (simp [*]; done))))
  (focus ((with_reducible refine s_region2 (q := ?_) (σ' := ?_) TT_ok PT3_ok ?_ ?_ ?_); rotate_left 2; (focus (first | (simp; exact Eq.refl _) | exact Eq.refl _)); (focus ((repeat (((with_reducible refine runL_cons (σ1 := ?_) ?_ ?_); rotate_left; (focus (simp [*]; rfl))))); (exact runL_nil)))))
  repeat (first | with_reducible first | refine s_seq ?_ | refine k_seq ?_ | refine k_seq_ret ?_ | refine k_seq_exit ?_ | refine k_blk ?_ | refine k_blk_ret ?_ | refine k_blk_exit ?_ | refine k_lp_ret ?_ | refine k_lp_exit ?_ | refine ki_lp_ret ?_ | refine ki_lp_exit ?_ | refine s_block ?_ | refine sp_skip ?_ | refine sp_ret ?_ | refine sp_exit ?_ | ((with_reducible refine k_blk_out ?_ ?_); (focus decide)) | ((with_reducible refine s_cond_t ?_ ?_); (focus (simp [*]; done))) | ((with_reducible refine s_cond_f ?_ ?_); (focus (simp [*]; done))))
  have hfs : ∀ k, k ∈ [1000] ++ List.range' 1001 D.length ↔ k = 1000 ∨ (1001 ≤ k ∧ k < 1001 + D.length) := fun k => by
    rw [List.mem_append, List.mem_singleton, List.mem_range'_1]
  -- the same names
  have same : ∀ (σ : AS) (slots : List (Nat × AV)) (i : Nat) (M : List (List Int)), σ.n = 32 → SameLen D M → (∀ p ∈ slots, lk σ.slots p.1 = some p.2 ∧ p.2.ids ⊆ [1, 1000]) → lk σ.objs 1 = some ⟨24, 2, [[.v (.int .i64 N), .ref 1000 0 D.length]]⟩ → lk σ.objs 1000 = some ⟨38, 1, spR D i⟩ → (∀ j, j < D.length → lk σ.objs (1001 + j) = some (obI (M.getD j []))) →
      WeakI ([1000] ++ List.range' 1001 D.length) σ ⟨32, slots, [(1, ⟨24, 2, [[.v (.int .i64 N), .ref 1000 0 D.length]]⟩), (1000, ⟨38, 1, spR D i⟩)] ++ fam 1001 M, [1, 1000] ++ List.range' 1001 M.length⟩ := by
    intro σ slots i M hn hM hs h1 h2 h3
    refine weakI_fam (fun q => q) (fun q hq => ⟨rfl, ?_⟩) hn.symm (fun p hp => ?_) (fun p hp => ?_) (fun j hj => ?_) (fun p _ q _ e => e) (fun j _ i _ e => by omega) (fun p hp j _ => ?_)
    · rw [hM.1]
      rcases (hfs q).1 hq with rfl | h
      · exact .inl (by simp)
      · exact .inr h
    · obtain ⟨g1, g2⟩ := hs p hp
      exact ⟨by rw [AV.ren_id]; exact g1, fun k hk => g2 hk⟩
    · simp only [List.mem_cons, List.not_mem_nil, or_false] at hp
      rcases hp with rfl | rfl
      · exact ⟨by omega, by rw [h1]; simp [renLL], by simp, fun q hq => .inl (by simp [idsLL, idsL, AV.ids] at hq; simp [hq])⟩
      · refine ⟨by omega, ?_, by simp, fun q hq => .inr ?_⟩
        · rw [h2]; dsimp only; rw [spR_ren (fun j _ => rfl)]
        · have := spR_ids hq
          rw [hM.1]; exact this
    · rw [h3 j (by rw [← hM.1]; exact hj)]
    · simp only [List.mem_cons, List.not_mem_nil, or_false] at hp
      rcases hp with rfl | rfl <;> dsimp only <;> omega
  refine s_loopI hI0 (J := fun i : {p : Nat × List (List Int) // p.1 ≤ D.length ∧ SameLen D p.2} => ⟨32, [(1, .ptr 1 0 0), (6, .v (.int .i64 (D.length : Int))), (7, .v (.int .i64 (i.1.1 : Int)))], [(1, ⟨24, 2, [[.v (.int .i64 N), .ref 1000 0 D.length]]⟩), (1000, ⟨38, 1, spR D i.1.1⟩)] ++ fam 1001 i.1.2, [1, 1000] ++ List.range' 1001 i.1.2.length⟩) (μ := fun i => D.length - i.1.1) ⟨(0, D), by omega, rfl, fun _ => rfl⟩ ?_ (fun ⟨⟨i, M⟩, hi, hM⟩ => ?_)
  · dsimp only
    refine same _ _ 0 D rfl ⟨rfl, fun _ => rfl⟩ (by simp [lk, AV.ids]) (by simp [lk, lk_st]) ?_ (fun j hj => ?_)
    · simp [lk, lk_st, hz]
    · simp only [lk, lk_st]
      rw [if_neg (by omega), if_neg (by omega), lk_fam_add hj]
  dsimp only at hi hM
  repeat (first | with_reducible first | refine s_seq ?_ | refine k_seq ?_ | refine k_seq_ret ?_ | refine k_seq_exit ?_ | refine k_blk ?_ | refine k_blk_ret ?_ | refine k_blk_exit ?_ | refine k_lp_ret ?_ | refine k_lp_exit ?_ | refine ki_lp_ret ?_ | refine ki_lp_exit ?_ | refine s_block ?_ | refine sp_skip ?_ | refine sp_ret ?_ | refine sp_exit ?_ | ((with_reducible refine k_blk_out ?_ ?_); (focus decide)) | ((with_reducible refine s_cond_t ?_ ?_); (focus (simp [*]; done))) | ((with_reducible refine s_cond_f ?_ ?_); (focus (simp [*]; done))))
  (focus ((with_reducible refine s_region2 (q := ?_) (σ' := ?_) TT_ok PT3_ok ?_ ?_ ?_); rotate_left 2; (focus (first | (simp; exact Eq.refl _) | exact Eq.refl _)); (focus ((repeat (((with_reducible refine runL_cons (σ1 := ?_) ?_ ?_); rotate_left; (focus (simp [*]; rfl))))); (exact runL_nil)))))
  repeat (first | with_reducible first | refine s_seq ?_ | refine k_seq ?_ | refine k_seq_ret ?_ | refine k_seq_exit ?_ | refine k_blk ?_ | refine k_blk_ret ?_ | refine k_blk_exit ?_ | refine k_lp_ret ?_ | refine k_lp_exit ?_ | refine ki_lp_ret ?_ | refine ki_lp_exit ?_ | refine s_block ?_ | refine sp_skip ?_ | refine sp_ret ?_ | refine sp_exit ?_ | ((with_reducible refine k_blk_out ?_ ?_); (focus decide)) | ((with_reducible refine s_cond_t ?_ ?_); (focus (simp [*]; done))) | ((with_reducible refine s_cond_f ?_ ?_); (focus (simp [*]; done))))
  (focus ((with_reducible refine sp_cond (b := ?_) ?_ (fun hc => ?_) (fun hc => ?_)); rotate_left; (focus (first | rfl | (simp [lk, AS.ev]; rfl))); all_goals (try simp at hc)))
  · have hrg := spR_get hc
    have hil := hDl i
    repeat (first | with_reducible first | refine s_seq ?_ | refine k_seq ?_ | refine k_seq_ret ?_ | refine k_seq_exit ?_ | refine k_blk ?_ | refine k_blk_ret ?_ | refine k_blk_exit ?_ | refine k_lp_ret ?_ | refine k_lp_exit ?_ | refine ki_lp_ret ?_ | refine ki_lp_exit ?_ | refine s_block ?_ | refine sp_skip ?_ | refine sp_ret ?_ | refine sp_exit ?_ | ((with_reducible refine k_blk_out ?_ ?_); (focus decide)) | ((with_reducible refine s_cond_t ?_ ?_); (focus (simp [*]; done))) | ((with_reducible refine s_cond_f ?_ ?_); (focus (simp [*]; done))))
    (focus ((with_reducible refine s_region2 (q := ?_) (σ' := ?_) TT_ok PT3_ok ?_ ?_ ?_); rotate_left 2; (focus (first | (simp; exact Eq.refl _) | exact Eq.refl _)); (focus ((repeat (((with_reducible refine runL_cons (σ1 := ?_) ?_ ?_); rotate_left; (focus (simp [*]; rfl))))); (exact runL_nil)))))
    repeat (first | with_reducible first | refine s_seq ?_ | refine k_seq ?_ | refine k_seq_ret ?_ | refine k_seq_exit ?_ | refine k_blk ?_ | refine k_blk_ret ?_ | refine k_blk_exit ?_ | refine k_lp_ret ?_ | refine k_lp_exit ?_ | refine ki_lp_ret ?_ | refine ki_lp_exit ?_ | refine s_block ?_ | refine sp_skip ?_ | refine sp_ret ?_ | refine sp_exit ?_ | ((with_reducible refine k_blk_out ?_ ?_); (focus decide)) | ((with_reducible refine s_cond_t ?_ ?_); (focus (simp [*]; done))) | ((with_reducible refine s_cond_f ?_ ?_); (focus (simp [*]; done))))
    (focus ((with_reducible refine s_region2 (q := ?_) (σ' := ?_) TT_ok PT3_ok ?_ ?_ ?_); rotate_left 2; (focus (first | (simp; exact Eq.refl _) | exact Eq.refl _)); (focus ((repeat (((with_reducible refine runL_cons (σ1 := ?_) ?_ ?_); rotate_left; (focus (simp [*]; rfl))))); (exact runL_nil)))))
    repeat (first | with_reducible first | refine s_seq ?_ | refine k_seq ?_ | refine k_seq_ret ?_ | refine k_seq_exit ?_ | refine k_blk ?_ | refine k_blk_ret ?_ | refine k_blk_exit ?_ | refine k_lp_ret ?_ | refine k_lp_exit ?_ | refine ki_lp_ret ?_ | refine ki_lp_exit ?_ | refine s_block ?_ | refine sp_skip ?_ | refine sp_ret ?_ | refine sp_exit ?_ | ((with_reducible refine k_blk_out ?_ ?_); (focus decide)) | ((with_reducible refine s_cond_t ?_ ?_); (focus (simp [*]; done))) | ((with_reducible refine s_cond_f ?_ ?_); (focus (simp [*]; done))))
    refine s_loopI hI0 (J := fun q : {p : Nat × List (List Int) // p.1 ≤ (D.getD i []).length ∧ SameLen D p.2} => ⟨32, [(1, .ptr 1 0 0), (2, .v (.int .i64 (i : Int))), (6, .v (.int .i64 (D.length : Int))), (7, .v (.int .i64 (i : Int))), (15, .v (.int .i64 ((D.getD i []).length : Int))), (16, .v (.int .i64 (q.1.1 : Int)))], [(1, ⟨24, 2, [[.v (.int .i64 N), .ref 1000 0 D.length]]⟩), (1000, ⟨38, 1, spR D i⟩)] ++ fam 1001 q.1.2, [1, 1000] ++ List.range' 1001 q.1.2.length⟩) (μ := fun q => (D.getD i []).length - q.1.1) ⟨(0, M), by omega, hM⟩ ?_ (fun ⟨⟨k, M⟩, hk, hM⟩ => ?_)
    · refine same _ _ i M rfl hM (by simp [lk, AV.ids]) (by simp [lk]) (by simp [lk]) (fun j hj => ?_)
      simp only [lk]
      rw [if_neg (by omega), if_neg (by omega), lk_fam_add (by rw [hM.1]; exact hj)]
    dsimp only at hk hM
    repeat (first | with_reducible first | refine s_seq ?_ | refine k_seq ?_ | refine k_seq_ret ?_ | refine k_seq_exit ?_ | refine k_blk ?_ | refine k_blk_ret ?_ | refine k_blk_exit ?_ | refine k_lp_ret ?_ | refine k_lp_exit ?_ | refine ki_lp_ret ?_ | refine ki_lp_exit ?_ | refine s_block ?_ | refine sp_skip ?_ | refine sp_ret ?_ | refine sp_exit ?_ | ((with_reducible refine k_blk_out ?_ ?_); (focus decide)) | ((with_reducible refine s_cond_t ?_ ?_); (focus (simp [*]; done))) | ((with_reducible refine s_cond_f ?_ ?_); (focus (simp [*]; done))))
    (focus ((with_reducible refine s_region2 (q := ?_) (σ' := ?_) TT_ok PT3_ok ?_ ?_ ?_); rotate_left 2; (focus (first | (simp; exact Eq.refl _) | exact Eq.refl _)); (focus ((repeat (((with_reducible refine runL_cons (σ1 := ?_) ?_ ?_); rotate_left; (focus (simp [*]; rfl))))); (exact runL_nil)))))
    repeat (first | with_reducible first | refine s_seq ?_ | refine k_seq ?_ | refine k_seq_ret ?_ | refine k_seq_exit ?_ | refine k_blk ?_ | refine k_blk_ret ?_ | refine k_blk_exit ?_ | refine k_lp_ret ?_ | refine k_lp_exit ?_ | refine ki_lp_ret ?_ | refine ki_lp_exit ?_ | refine s_block ?_ | refine sp_skip ?_ | refine sp_ret ?_ | refine sp_exit ?_ | ((with_reducible refine k_blk_out ?_ ?_); (focus decide)) | ((with_reducible refine s_cond_t ?_ ?_); (focus (simp [*]; done))) | ((with_reducible refine s_cond_f ?_ ?_); (focus (simp [*]; done))))
    (focus ((with_reducible refine sp_cond (b := ?_) ?_ (fun hc => ?_) (fun hc => ?_)); rotate_left; (focus (first | rfl | (simp [lk, AS.ev]; rfl))); all_goals (try simp at hc)))
    · have hki : k < (M.getD i []).length := by rw [hM.2]; exact hc
      have hiM : i < M.length := by rw [hM.1]; assumption
      have hf := lk_fam_add (b := 1001) hiM
      unfold obI at hf
      have hn1 : ¬ 1 = 1001 + i := by omega
      have hn2 : ¬ 1000 = 1001 + i := by omega
      repeat (first | with_reducible first | refine s_seq ?_ | refine k_seq ?_ | refine k_seq_ret ?_ | refine k_seq_exit ?_ | refine k_blk ?_ | refine k_blk_ret ?_ | refine k_blk_exit ?_ | refine k_lp_ret ?_ | refine k_lp_exit ?_ | refine ki_lp_ret ?_ | refine ki_lp_exit ?_ | refine s_block ?_ | refine sp_skip ?_ | refine sp_ret ?_ | refine sp_exit ?_ | ((with_reducible refine k_blk_out ?_ ?_); (focus decide)) | ((with_reducible refine s_cond_t ?_ ?_); (focus (simp [*]; done))) | ((with_reducible refine s_cond_f ?_ ?_); (focus (simp [*]; done))))
      (focus ((with_reducible refine s_region2 (q := ?_) (σ' := ?_) TT_ok PT3_ok ?_ ?_ ?_); rotate_left 2; (focus (first | (simp; exact Eq.refl _) | exact Eq.refl _)); (focus ((repeat (((with_reducible refine runL_cons (σ1 := ?_) ?_ ?_); rotate_left; (focus (simp [*]; rfl))))); (exact runL_nil)))))
      repeat (first | with_reducible first | refine s_seq ?_ | refine k_seq ?_ | refine k_seq_ret ?_ | refine k_seq_exit ?_ | refine k_blk ?_ | refine k_blk_ret ?_ | refine k_blk_exit ?_ | refine k_lp_ret ?_ | refine k_lp_exit ?_ | refine ki_lp_ret ?_ | refine ki_lp_exit ?_ | refine s_block ?_ | refine sp_skip ?_ | refine sp_ret ?_ | refine sp_exit ?_ | ((with_reducible refine k_blk_out ?_ ?_); (focus decide)) | ((with_reducible refine s_cond_t ?_ ?_); (focus (simp [*]; done))) | ((with_reducible refine s_cond_f ?_ ?_); (focus (simp [*]; done))))
      (focus ((with_reducible refine s_region2 (q := ?_) (σ' := ?_) TT_ok PT3_ok ?_ ?_ ?_); rotate_left 2; (focus (first | (simp; exact Eq.refl _) | exact Eq.refl _)); (focus ((repeat (((with_reducible refine runL_cons (σ1 := ?_) ?_ ?_); rotate_left; (focus (simp [*]; rfl))))); (exact runL_nil)))))
      repeat (first | with_reducible first | refine s_seq ?_ | refine k_seq ?_ | refine k_seq_ret ?_ | refine k_seq_exit ?_ | refine k_blk ?_ | refine k_blk_ret ?_ | refine k_blk_exit ?_ | refine k_lp_ret ?_ | refine k_lp_exit ?_ | refine ki_lp_ret ?_ | refine ki_lp_exit ?_ | refine s_block ?_ | refine sp_skip ?_ | refine sp_ret ?_ | refine sp_exit ?_ | ((with_reducible refine k_blk_out ?_ ?_); (focus decide)) | ((with_reducible refine s_cond_t ?_ ?_); (focus (simp [*]; done))) | ((with_reducible refine s_cond_f ?_ ?_); (focus (simp [*]; done))))
      (focus ((with_reducible refine s_region2 (q := ?_) (σ' := ?_) TT_ok PT3_ok ?_ ?_ ?_); rotate_left 2; (focus (first | (simp; exact Eq.refl _) | exact Eq.refl _)); (focus ((repeat (((with_reducible refine runL_cons (σ1 := ?_) ?_ ?_); rotate_left; (focus (simp [*]; rfl))))); (exact runL_nil)))))
      refine ki_lp (⟨(k + 1, M.set i ((M.getD i []).set k 77)), by dsimp only; omega, hM.set (by simp)⟩ : {p : Nat × List (List Int) // p.1 ≤ (D.getD i []).length ∧ SameLen D p.2}) (by dsimp only; omega) ?_
      have hw : IntKind.i64.wrap ((k : Int) + 1) = (k : Int) + 1 := i64s k (by omega)
      refine same _ _ i _ rfl (hM.set (by simp)) (by simp [lk, AV.ids, hw]) (by simp [lk]) (by simp [lk]) (fun j hj => ?_)
      simp only [lk, lk_st]
      rw [if_neg (by omega), if_neg (by omega)]
      by_cases e : j = i
      · subst e
        rw [if_pos rfl]
        simp [List.getD, hiM, obI, List.map_set]
      · rw [if_neg (by omega), lk_fam_add (by rw [hM.1]; exact hj)]
        simp [List.getD, List.getElem?_set, Ne.symm e]
    · have hs := spR_set (D := D) (i := i) (by assumption)
      repeat (first | with_reducible first | refine s_seq ?_ | refine k_seq ?_ | refine k_seq_ret ?_ | refine k_seq_exit ?_ | refine k_blk ?_ | refine k_blk_ret ?_ | refine k_blk_exit ?_ | refine k_lp_ret ?_ | refine k_lp_exit ?_ | refine ki_lp_ret ?_ | refine ki_lp_exit ?_ | refine s_block ?_ | refine sp_skip ?_ | refine sp_ret ?_ | refine sp_exit ?_ | ((with_reducible refine k_blk_out ?_ ?_); (focus decide)) | ((with_reducible refine s_cond_t ?_ ?_); (focus (simp [*]; done))) | ((with_reducible refine s_cond_f ?_ ?_); (focus (simp [*]; done))))
      (focus ((with_reducible refine s_region2 (q := ?_) (σ' := ?_) TT_ok PT3_ok ?_ ?_ ?_); rotate_left 2; (focus (first | (simp; exact Eq.refl _) | exact Eq.refl _)); (focus ((repeat (((with_reducible refine runL_cons (σ1 := ?_) ?_ ?_); rotate_left; (focus (simp [*]; rfl))))); (exact runL_nil)))))
      repeat (first | with_reducible first | refine s_seq ?_ | refine k_seq ?_ | refine k_seq_ret ?_ | refine k_seq_exit ?_ | refine k_blk ?_ | refine k_blk_ret ?_ | refine k_blk_exit ?_ | refine k_lp_ret ?_ | refine k_lp_exit ?_ | refine ki_lp_ret ?_ | refine ki_lp_exit ?_ | refine s_block ?_ | refine sp_skip ?_ | refine sp_ret ?_ | refine sp_exit ?_ | ((with_reducible refine k_blk_out ?_ ?_); (focus decide)) | ((with_reducible refine s_cond_t ?_ ?_); (focus (simp [*]; done))) | ((with_reducible refine s_cond_f ?_ ?_); (focus (simp [*]; done))))
      (focus ((with_reducible refine s_region2 (q := ?_) (σ' := ?_) TT_ok PT3_ok ?_ ?_ ?_); rotate_left 2; (focus (first | (simp; exact Eq.refl _) | exact Eq.refl _)); (focus ((repeat (((with_reducible refine runL_cons (σ1 := ?_) ?_ ?_); rotate_left; (focus (simp [*]; rfl))))); (exact runL_nil)))))
      refine ki_lp (⟨(i + 1, M), by dsimp only; omega, hM⟩ : {p : Nat × List (List Int) // p.1 ≤ D.length ∧ SameLen D p.2}) (by dsimp only; omega) ?_
      have hw : IntKind.i64.wrap ((i : Int) + 1) = (i : Int) + 1 := i64s i (by omega)
      refine same _ _ (i + 1) M rfl hM (by simp [lk, AV.ids, hw]) (by simp [lk]) (by simp [lk, hs]) (fun j hj => ?_)
      simp only [lk]
      rw [if_neg (by omega), if_neg (by omega), lk_fam_add (by rw [hM.1]; exact hj)]
  · repeat (first | with_reducible first | refine s_seq ?_ | refine k_seq ?_ | refine k_seq_ret ?_ | refine k_seq_exit ?_ | refine k_blk ?_ | refine k_blk_ret ?_ | refine k_blk_exit ?_ | refine k_lp_ret ?_ | refine k_lp_exit ?_ | refine ki_lp_ret ?_ | refine ki_lp_exit ?_ | refine s_block ?_ | refine sp_skip ?_ | refine sp_ret ?_ | refine sp_exit ?_ | ((with_reducible refine k_blk_out ?_ ?_); (focus decide)) | ((with_reducible refine s_cond_t ?_ ?_); (focus (simp [*]; done))) | ((with_reducible refine s_cond_f ?_ ?_); (focus (simp [*]; done))))
    refine ⟨.inl rfl, .tup [], rfl, rfl, rfl, fun q => q, fun t av ht => (by cases ht), fun k ob hk => (by cases hk), fun k ob k' ob' hk => (by cases hk), fun k hk => ⟨rfl, hk⟩⟩
end Go.Proofs.Ytkollnaojpppcaa
