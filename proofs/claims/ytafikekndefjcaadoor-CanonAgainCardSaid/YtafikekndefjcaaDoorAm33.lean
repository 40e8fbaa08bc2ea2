/- An abstract machine for the text, part thirty-three: code that keeps the marks; maps that stay; loops over maps; plain lemmas over any program; no condition. -/
import Derived.Test.YtafikekndefjcaaDoorAm31
import Derived.Maps.RangeRun
namespace Go.Proofs.YtafikekndefjcaaDoor
set_option linter.unusedVariables false
set_option linter.unusedSimpArgs false
set_option linter.unusedSectionVars false
open Go.RowKit
section dd
variable {P : Program} {TT : TTab} {PT : PTab} {B : Base} {G : Gh} {σ τ : AS} {w : World} {a : Act} {Q : Exit → AS → Prop} {ops : Array Oper}
def PostD (B : Base) (Q : Exit → AS → Prop) (e : Exit) (a : Act) (w : World) : Prop := ∃ G σ, R B G σ w a ∧ Q e σ
def SPD (P : Program) (B : Base) (c : Code) (σ : AS) (Q : Exit → AS → Prop) : Prop := ∀ G w a, R B G σ w a → c.wpIn (FR B.ro) 0 P (PostD B Q) a w
def SPLD (P : Program) (B : Base) (ops : Array Oper) (l : List Oper) (σ : AS) (Q : Exit → AS → Prop) : Prop := ∀ G w a, R B G σ w a → wpListIn (FR B.ro) 0 P ops (PostD B Q) l a w
def KseqD (P : Program) (B : Base) (y : Code) (Q : Exit → AS → Prop) (e : Exit) (τ : AS) : Prop := match e with
  | .normal => SPD P B y τ Q
  | e => Q e τ
theorem d_mono {c : Code} {Q' : Exit → AS → Prop} (h : SPD P B c σ Q') (hq : ∀ e τ, Q' e τ → Q e τ) : SPD P B c σ Q :=
  fun G w a hr => wpIn_mono (h G w a hr) fun e a' w' ⟨G', τ, hr', hq'⟩ => ⟨G', τ, hr', hq _ _ hq'⟩
theorem d_seq {x y : Code} (h : SPD P B x σ (KseqD P B y Q)) : SPD P B (.seq x y) σ Q :=
  fun G w a hr => wpIn_seq (wpIn_mono (h G w a hr) fun e a' w' hq => by
    obtain ⟨G', τ, hr', hq⟩ := hq
    cases e <;> first | exact hq G' w' a' hr' | exact ⟨G', τ, hr', hq⟩)
theorem kd_seq {y : Code} (h : SPD P B y σ Q) : KseqD P B y Q .normal σ := h
theorem kd_seq_ret {y : Code} (h : Q .ret σ) : KseqD P B y Q .ret σ := h
theorem kd_seq_exit {y : Code} {i : Nat} (h : Q (.exit i) σ) : KseqD P B y Q (.exit i) σ := h
theorem d_skip (h : Q .normal σ) : SPD P B .skip σ Q := fun G w a hr => wpIn_skip ⟨G, σ, hr, h⟩
theorem d_ret (h : Q .ret σ) : SPD P B .ret σ Q := fun G w a hr => wpIn_ret ⟨G, σ, hr, h⟩
theorem d_exit {id : Nat} (h : Q (.exit id) σ) : SPD P B (.exit id) σ Q := fun G w a hr => wpIn_exit ⟨G, σ, hr, h⟩
theorem d_cond {c : Operand} {x y : Code} {b : Bool} (hc : σ.ev c = some (.v (.bool b))) (h1 : b = true → SPD P B x σ Q) (h2 : b = false → SPD P B y σ Q) : SPD P B (.cond c x y) σ Q :=
  fun G w a hr => wpIn_cond (hr.ev hc).v_eq (by
    cases b
    · exact h2 rfl G w a hr
    · exact h1 rfl G w a hr)
theorem d_cond_t {c : Operand} {x y : Code} (hc : σ.ev c = some (.v (.bool true))) (h : SPD P B x σ Q) : SPD P B (.cond c x y) σ Q := d_cond hc (fun _ => h) (fun h => by cases h)
theorem d_cond_f {c : Operand} {x y : Code} (hc : σ.ev c = some (.v (.bool false))) (h : SPD P B y σ Q) : SPD P B (.cond c x y) σ Q := d_cond hc (fun h => by cases h) (fun _ => h)
theorem wp_blockD {id : Nat} {c : Code} (h : c.wpIn (FR B.ro) 0 P (PostD B (Kblk id Q)) a w) : (Code.block id c).wpIn (FR B.ro) 0 P (PostD B Q) a w :=
  wpIn_block (wpIn_mono h fun e a' w' hq => by
    obtain ⟨G', τ, hr', hq⟩ := hq
    unfold Kblk at hq
    cases e <;> first
      | exact ⟨G', τ, hr', hq⟩
      | (
         simp only [Exit.inBlock] at hq ⊢
         split at hq
         · rename_i h; subst h; simp only [if_true]; exact ⟨G', τ, hr', hq⟩
         · rename_i h
           first
           | (rw [if_neg h]; exact ⟨G', τ, hr', hq⟩)
           | (rw [if_neg (Ne.symm h)]; exact ⟨G', τ, hr', hq⟩)))
theorem d_block {id : Nat} {c : Code} (h : SPD P B c σ (Kblk id Q)) : SPD P B (.block id c) σ Q := fun G w a hr => wp_blockD (h G w a hr)
theorem d_region2 (hTT : TTok P TT) (hPT : PTok P PT) {id q : Nat} {l : List Oper} {σ' : AS} (hq : nxt σ = q) (h : runL TT PT l.toArray l q σ = some σ') (k : Q .normal σ') : SPD P B (.region id l.toArray false) σ Q :=
  fun G w a hr => wpIn_region_list (ops := l.toArray) (runL_ok (B := B) (D := B.D) hTT hPT l q σ σ' h hr _ fun G' w' a' _ hr' => ⟨G', σ', hr', k⟩)
theorem d_regionL {id : Nat} (h : SPLD P B ops ops.toList σ Q) : SPD P B (.region id ops false) σ Q := fun G w a hr => wpIn_region_list (h G w a hr)
theorem dl_nil (h : Q .normal σ) : SPLD P B ops [] σ Q := fun G w a hr => ⟨G, σ, hr, h⟩
theorem dl_eq {r : List Oper} (h : σ = τ) (k : SPLD P B ops r τ Q) : SPLD P B ops r σ Q := h ▸ k
theorem dl_step (hTT : TTok P TT) (hPT : PTok P PT) {id : Nat} {o : Oper} {r : List Oper} {σ' : AS} (h : stepA TT PT ops id σ o = some σ') (k : SPLD P B ops r σ' Q) : SPLD P B ops (o :: r) σ Q := fun G w a hr => by
  have := stepA_ok (B := B) (D := B.D) hTT hPT h hr (wpListIn (FR B.ro) 0 P ops (PostD B Q) r) (PostD B Q) fun G' w' a' _ hr' => k G' w' a' hr'
  unfold wpListIn
  exact this
theorem dl_opI {o : Oper} {r : List Oper} {s : Res} (hd : dstOk σ o = true) (hw : wantA σ ops o = some true) (hc : CoreI P B o σ s) (k : SPLD P B ops r ((σ.upd s.2).put o.dst s.1) Q) : SPLD P B ops (o :: r) σ Q := fun G w a hr => by
  unfold wpListIn
  rw [if_pos (wantA_ok hr hw)]
  exact hc B.D G w a hr _ _ fun G' w' x hle hr' hx => k G' w' _ (R.put (B := B) (a := a) hr' (fun d hdd => R.dst (G := G) (w := w) (a := a) hd d hdd) hx)
theorem dl_procB (hTT : TTok P TT) {o : Oper} {r : List Oper} {x : Operand} {args : Array Operand} {ts : Array TypeId} {f : FuncId} {fn : Func} {avs cs : List AV} (hd : dstOk σ o = true) (hw : wantA σ ops o = some true) (ho : o.op = .call { callee := .value x, args := args, argTypes := ts })
    (hfn : fnB P f = true) (hf : P.funcs[f]? = some fn) (hx : σ.callee x = some (f, cs)) (ha : σ.evs args.toList = some avs) (hn : (avs ++ cs).length ≤ fn.ntmps) {K : AV → List (Nat × AObj) → List Nat → Prop}
    (hP : ProcB P TT fn (avs ++ cs) σ.objs σ.ids K) (k : ∀ av O' I', K av O' I' → SPLD P B ops r (AS.put ⟨σ.n, σ.slots, O', I'⟩ o.dst av) Q) : SPLD P B ops (o :: r) σ Q := fun G w a hr => by
  obtain ⟨c, hb, hp⟩ := hP
  have hen := enters_ok (P := P) ho hfn hx ha
  unfold wpListIn
  rw [if_pos (wantA_ok hr hw)]
  obtain ⟨argv, hop, h1, h2⟩ := hen B G w a hr
  refine ⟨fun _ _ => trivial, ?_⟩
  rw [show (FR B.ro).round = B.ro from rfl, Oper.semAt_eq B.ro a.eval o (fun c hc => by rw [ho] at hc; cases hc), hop, Oper.uponIn_enter]
  refine ⟨fun e => (by cases e), FR_calls.2 ?_⟩
  have hs := hr.sub none (n := fn.ntmps) (slots := enumA 0 (avs ++ cs)) (a' := { tmps := argv ++ Array.replicate (fn.ntmps - argv.size) undef, defers := [] }) (by simp; simp at h1 hn; omega) (entry_slots hn h1 h2) rfl
  refine (call_sp hTT hf hb rfl hs (K := fun av τ => K av τ.objs τ.ids) (sp_mono (hp (Base.sub G σ w none) rfl rfl) fun e τ h => h)).mono fun e w' hq => ?_
  obtain ⟨v, G', τ, av, a', rfl, hr', hv, hK⟩ := hq
  obtain ⟨hle, hb'⟩ := hr.back hr'
  exact k av τ.objs τ.ids hK G' w' _ (hb'.put (fun d hdd => R.dst (G := G) (w := w) (a := a) (σ := σ) hd d hdd) hv)
theorem d_subS {c : Code} (h : SubS σ τ) (k : SPD P B c τ Q) : SPD P B c σ Q := fun G w a hr => k G w a (hr.subS h)
theorem d_loopS {ι : Type} {c : Code} (J : ι → AS) (μ : ι → Nat) (i0 : ι) (h0 : SubS σ (J i0)) (round : ∀ i, SPD P B c (J i) (KlpS J μ i Q)) : SPD P B (.loop c) σ Q :=
  fun G w a hr => by
    refine wpIn_loop_ghost (fun n a w => ∃ i G, μ i = n ∧ R B G (J i) w a) (μ i0) ⟨i0, G, rfl, hr.subS h0⟩ ?_
    rintro n a w ⟨i, G, rfl, hri⟩
    refine wpIn_mono (round i G w a hri) fun e a' w' hq => ?_
    obtain ⟨G2, τ, hr2, hq⟩ := hq
    cases e <;> first
      | (
         obtain ⟨j, hj, hw⟩ := hq
         exact ⟨μ j, hj, j, G2, rfl, hr2.subS hw⟩)
      | exact ⟨G2, τ, hr2, hq⟩
theorem call_spD (hTT : TTok P TT) {f : FuncId} {fn : Func} {c : Code} (hf : P.funcs[f]? = some fn) (hb : fn.body = some c) (hro : B.ro = none) (hD : B.D = []) {G : Gh} {w : World} {vs : Array Value} {σ0 : AS} (hr : R B G σ0 w { tmps := vs ++ Array.replicate (fn.ntmps - vs.size) undef, defers := [] }) {K : AV → AS → Prop}
    (h : SPD P B c σ0 (fun e τ => (e = .normal ∨ e = .ret) ∧ ∃ av, retA TT τ fn.results.toList = some av ∧ K av τ)) : Calls P f vs w fun e w' => ∃ v G' τ av a', e = .returned v ∧ R B G' τ w' a' ∧ Rv G' av v ∧ K av τ := by
  refine (callsIn_wide (n := 0)).1 (callsIn_of_wp_marks (F := Fence.wide) hf hb trivial ?_)
  have h1 := h G w _ hr
  rw [hro, FR_none] at h1
  refine wpIn_mono h1 fun e a' w' hq => ?_
  obtain ⟨G', τ, hr', he, av, hav, hK⟩ := hq
  have hBd : B = B.d [] := by cases B; cases hD; rfl
  have hd : a'.defers = [].map mark := by rw [hr'.defers, hD]
  rw [hBd] at hr'
  have := leaves_ok (B := B) hTT hav (Rf := fun e w' => ∃ v G' τ av a', e = .returned v ∧ R B G' τ w' a' ∧ Rv G' av v ∧ K av τ) [] G' w' a' hr' fun w2 v h2 h3 => ⟨v, G', τ, av, _, rfl, by rw [hBd]; exact h2, h3, hK⟩
  rw [← hd] at this
  rcases he with rfl | rfl
  · exact this
  · exact this
theorem fn_spD (hTT : TTok P TT) {f : FuncId} {fn : Func} {c : Code} (hf : P.funcs[f]? = some fn) (hb : fn.body = some c) {args : List AV} {res : AV} (hn : args.length ≤ fn.ntmps) (h : ∀ B : Base, B.I0 = [] → B.ro = none → B.D = [] → SPD P B c ⟨fn.ntmps, enumA 0 args, [], []⟩ (PostP TT fn res)) : FnPure P f args res := by
  intro S w vs hS hvs hargs
  have h0 : R { w0 := w, S0 := S, bs := [] } (G0 S) ⟨fn.ntmps, enumA 0 args, [], []⟩ w { tmps := vs ++ Array.replicate (fn.ntmps - vs.size) undef, defers := [] } :=
    ⟨by simp; omega, entry_slots hn hvs hargs, rfl, ⟨rfl, rfl, rfl, Nat.le_refl _, fun _ _ _ => rfl, fun k o hk => by simp [lk] at hk, fun k o hk => by simp [lk] at hk, fun k k' o o' hk => by simp [lk] at hk, hS.1, fun k o hk => by simp [lk] at hk, fun b o u h => .inl h, fun b o u h => h, fun k l hk => (by cases hk), fun r hr => (by cases hr), ⟨List.nodup_nil, fun k l hk => (by cases hk), hS.2⟩⟩, fun k hk => by simp [G0] at hk⟩
  refine (call_spD hTT hf hb rfl rfl h0 (K := fun av τ => τ.shut (fun _ => true) av = some res) (d_mono (h { w0 := w, S0 := S, bs := [] } rfl rfl rfl) fun e τ h => h)).mono fun e w' hq => ?_
  obtain ⟨v, G', τ, av, a', rfl, hr', h2, hsh⟩ := hq
  have hfz := hr'.freeze (fun _ => true) [] (fun k ob hk => by simp [lk] at hk)
  refine ⟨v, (G'.frz τ (fun _ => true) w').S, rfl, ⟨hr'.heap.os, hr'.heap.tape, hr'.heap.output, hr'.heap.size, fun k hk => hr'.heap.old k hk (by simp)⟩, hfz.heap.keep, hfz.heap.st, fun b o u hs => ?_, ?_⟩
  · rcases hfz.heap.fresh b o u hs with h | h | h
    · exact .inl h
    · exact .inr h
    · simp at h
  · exact shut_ok hr' (D := fun _ => true) (T := (G'.frz τ (fun _ => true) w').S) (L := fun _ => none) (frz_le hr' _).S (fun k ob b x p u hD hk hl hc => by rw [frz_in hD hk hl]; exact hc) h2 hsh
/-! ### Maps that stay -/
theorem R.here (hr : R B G σ w a) (hD : B.D = []) (ro : Option Nat) : R (Base.sub G σ w ro) G σ w a := hr.sub ro hr.n hr.slot (by rw [hr.defers, hD]; rfl)
theorem R.hence (hr : R B G σ w a) (hD : B.D = []) {ro : Option Nat} {G2 : Gh} {w2 : World} {a2 : Act} (h2 : R (Base.sub G σ w ro) G2 τ w2 a2) : G.le G2 ∧ R B G2 τ w2 a2 := by
  obtain ⟨hle, hb⟩ := hr.back h2
  exact ⟨hle, h2.n, h2.slot, by rw [h2.defers, hD]; rfl, hb.heap, hb.ids⟩
def FMap (B : Base) (k : Nat) (rows : List (Value × Value)) : Prop :=
  ∃ b x es clock, B.L0 k = some (some b, x) ∧ b < B.w0.heap.size ∧ b ∉ B.bs ∧ B.w0.heap[b]? = some (.map es clock) ∧ MapKept.Stamped es clock ∧ es.toList.map (fun e => (e.key, e.val)) = rows
def FEnt (P : Program) (B : Base) (k : Nat) (e : Value × Value) : Prop :=
  ∃ r bm, B.L0 k = some (some r, 0, 0, 0) ∧ r < B.w0.heap.size ∧ r ∉ B.bs ∧ bm < B.w0.heap.size ∧ bm ∉ B.bs ∧ ∀ w : World, w.heap[r]? = B.w0.heap[r]? → w.heap[bm]? = B.w0.heap[bm]? → (Instr.entry (.pointer (some ⟨r, 0, none⟩))).run P w = .ok (.tuple #[e.1, e.2]) w
theorem old_block (hr : R B G σ w a) {b : Nat} (h1 : b < B.w0.heap.size) (h2 : b ∉ B.bs) : b ∉ blocks G σ.objs := fun hb => by
  obtain ⟨k, ob, x, h3, h4⟩ := mem_blocks.1 hb
  rcases hr.heap.own k ob h3 _ _ _ _ h4 with h | h
  · omega
  · exact h2 h
theorem FMap.sub {k : Nat} {rows : List (Value × Value)} (h : FMap B k rows) (hr : R B G σ w a) (ro : Option Nat) : FMap (Base.sub G σ w ro) k rows := by
  obtain ⟨b, x, es, clock, h1, h2, h3, h4, h5, h6⟩ := h
  exact ⟨b, x, es, clock, hr.heap.fix k _ h1, Nat.lt_of_lt_of_le h2 hr.heap.size, old_block hr h2 h3, (hr.heap.old b h2 h3).trans h4, h5, h6⟩
theorem mp_block {k : Nat} {v : Value} {b : Nat} {x : Nat × Nat × Nat} (hl : G.loc k = some (some b, x)) (hv : Rv G (.mp k) v) : v = .map (some b) := by
  cases hv with
  | mp _ b' y hk => rw [hl] at hk; cases hk; rfl
theorem it_block {k : Nat} {v : Value} {r : Nat} (hl : G.loc k = some (some r, 0, 0, 0)) (hv : Rv G (.ptr k 0 0) v) : v = .pointer (some ⟨r, 0, none⟩) := by
  cases hv with
  | ptr _ _ _ b base cap sz hk => rw [hl] at hk; cases hk; simp
theorem ok_entry {k : Nat} {e : Value × Value} {o : Oper} {x : Operand} (h : FEnt P B k e) (ho : o.op = .entry x) (hx : σ.ev x = some (.ptr k 0 0)) : CoreI P B o σ (.tup [.v e.1, .v e.2], []) := fun D G w a hr K Q hK => by
  obtain ⟨r, bm, h1, h2, h3, h4, h5, h6⟩ := h
  have hv := it_block (hr.heap.fix k _ h1) (hr.ev hx)
  have hrun : (execOp a.eval o).run P w = .ok (.value (.tuple #[e.1, e.2])) w := by
    unfold execOp
    rw [ho]
    simp [hv, h6 w (hr.heap.old r h2 h3) (hr.heap.old bm h4 h5)]
  refine wp_FR (fun c hc => by rw [ho] at hc; cases hc) ?_
  unfold Oper.wp
  rw [hrun]
  exact hK G w _ (Gh.le.refl G) hr (.tup _ [e.1, e.2] rfl fun i hi => by
    rcases i with _ | _ | i
    · exact .v _
    · exact .v _
    · simp only [List.length_cons, List.length_nil] at hi; omega)
theorem d_freeze {c : Code} (hD : B.D = []) {k : Nat} {ob : AObj} {rows : List (Value × Value)} (hk : lk σ.objs k = some ob) (hz : ob.sz = 0) (hx : ob.xs = rows.map fun p => [.v p.1, .v p.2])
    (h : ∀ B2 : Base, B2.D = [] → B2.ro = B.ro → B2.I0 = σ.ids → FMap B2 k rows → SPD P B2 c ⟨σ.n, σ.slots, dl σ.objs k, σ.ids⟩ Q) : SPD P B c σ Q := fun G w a hr => by
  have hr1 : R B G ⟨σ.n, σ.slots, dl σ.objs k, σ.ids⟩ w a := hr.subS ⟨rfl, fun _ _ h => h, fun j o hj => by
    rw [lk_dl] at hj
    split at hj
    · cases hj
    · exact hj, fun _ h => h⟩
  obtain ⟨b, base, cap, h1, es, clock, h2, h3, h4, h5⟩ := (hr.heap.obj k ob hk).map hz
  have hnb : b ∉ blocks G (dl σ.objs k) := fun hb => by
    obtain ⟨j, oj, x, h6, h7⟩ := mem_blocks.1 hb
    rw [lk_dl] at h6
    split at h6
    · cases h6
    · rename_i hne
      exact hne (hr.heap.inj k j ob oj hk h6 b _ _ h1 h7)
  have hrows : es.toList.map (fun e => (e.key, e.val)) = rows := by
    have hl : ob.xs.length = rows.length := by rw [hx, List.length_map]
    refine List.ext_getElem (by simp [h4, hl]) fun i hi1 hi2 => ?_
    obtain ⟨e, kk, av, a1, a2, a3, a4, a5⟩ := h5 i (by omega)
    have e1 : ob.xs.getD i [] = [.v rows[i].1, .v rows[i].2] := by
      rw [hx, List.getD_eq_getElem?_getD, List.getElem?_map, List.getElem?_eq_getElem hi2]; rfl
    rw [e1] at a2
    cases a2
    have e2 := a5.v_eq
    have hi3 : i < es.size := by simpa using hi1
    rw [Array.getElem?_eq_getElem hi3] at a1
    cases a1
    rw [List.getElem_map, Array.getElem_toList, a3, e2]
  have hf : FMap (Base.sub G ⟨σ.n, σ.slots, dl σ.objs k, σ.ids⟩ w B.ro) k rows := ⟨b, _, es, clock, h1, (Array.getElem?_eq_some_iff.1 h2).1, hnb, h2, h3, hrows⟩
  refine wpIn_mono (h (Base.sub G ⟨σ.n, σ.slots, dl σ.objs k, σ.ids⟩ w B.ro) rfl rfl rfl hf G w a (hr1.here hD B.ro)) fun e a' w' hq => ?_
  obtain ⟨G2, τ, hr2, hq⟩ := hq
  exact ⟨G2, τ, (hr1.hence hD hr2).2, hq⟩
def Kmap {ι : Type} (J : ι → AS) (todo : ι → List (Value × Value)) (L : List (Value × Value)) (Q : Exit → AS → Prop) (e : Exit) (τ : AS) : Prop := match e with
  | .normal => ∃ j, todo j = L ∧ SubS τ (J j)
  | e => Q e τ
theorem km_lp {ι : Type} {J : ι → AS} {todo : ι → List (Value × Value)} {L : List (Value × Value)} (j : ι) (h : todo j = L) (hw : SubS σ (J j)) : Kmap J todo L Q .normal σ := ⟨j, h, hw⟩
theorem km_ret {ι : Type} {J : ι → AS} {todo : ι → List (Value × Value)} {L : List (Value × Value)} (h : Q .ret σ) : Kmap J todo L Q .ret σ := h
theorem left_push {es : List MapEntry} (hn : (es.map (·.born)).Nodup) {seen : Array Nat} {e : MapEntry} (he : e ∈ es.filter fun x => !seen.contains x.born) :
    ∃ l1 l2, es.filter (fun x => !seen.contains x.born) = l1 ++ e :: l2 ∧ es.filter (fun x => !(seen.push e.born).contains x.born) = l1 ++ l2 := by
  obtain ⟨l1, l2, h1⟩ := List.append_of_mem he
  refine ⟨l1, l2, h1, ?_⟩
  have e1 : es.filter (fun x => !(seen.push e.born).contains x.born) = (es.filter fun x => !seen.contains x.born).filter fun x => !(x.born == e.born) := by
    rw [List.filter_filter]
    congr 1
    funext x
    rw [contains_push]
    cases seen.contains x.born <;> cases (x.born == e.born) <;> rfl
  have hn2 : ((l1 ++ e :: l2).map (·.born)).Nodup := by
    rw [← h1]
    exact hn.sublist (List.filter_sublist.map _)
  rw [e1, h1]
  rw [List.map_append, List.map_cons, List.nodup_append] at hn2
  obtain ⟨h2, h3, h4⟩ := hn2
  rw [List.nodup_cons] at h3
  rw [List.filter_append, List.filter_cons, if_neg (by simp), List.filter_eq_self.2, List.filter_eq_self.2]
  · intro x hx
    have : x.born ≠ e.born := fun h => h3.1 (by rw [← h]; exact List.mem_map.2 ⟨x, hx, rfl⟩)
    simpa using this
  · intro x hx
    have : x.born ≠ e.born := fun h => h4 _ (List.mem_map.2 ⟨x, hx, rfl⟩) _ List.mem_cons_self h
    simpa using this
def nxS (σ : AS) (tN tB : Nat) (b : Bool) : AS := ⟨σ.n, st (st σ.slots tN .any) tB (.v (.bool b)), σ.objs, σ.ids⟩
theorem ext_ok {tN : Nat} {oE : Oper} {b : Bool} {vs : List Value} (hEo : oE.op = .extract (.tmp tN) 0) (hv : a.tmps.getD tN undef = .tuple (.bool b :: vs).toArray) : (execOp a.eval oE).run P w = .ok (.value (.bool b)) w := by
  unfold execOp
  rw [hEo]
  simp [Act.eval, hv, Instr.extract]
theorem d_rangeM {ι : Type} (hTT : TTok P TT) (hPT : PTok P PT) {k kit : Nat} {rows : List (Value × Value)} {id1 id2 i2 : Nat} {oM oR oN oE : Oper} {tI tN tB : Nat} {tM kt et : TypeId} {x : Operand} {body : Code} {σ1 : AS} {ops1 ops2 : Array Oper} {q : Nat} (J : ι → AS) (todo : ι → List (Value × Value)) (i0 : ι)
    (hD : B.D = []) (hF : FMap B k rows) (ho1 : ops1 = #[oM, oR]) (ho2 : ops2 = #[oN, oE]) (hM : stepA TT PT ops1 q σ oM = some σ1)
    (hRd : dstOk σ1 oR = true) (hRw : wantA σ1 ops1 oR = some true) (hRo : oR.op = .range tM x) (hRt : oR.dst = some tI) (hx : σ1.ev x = some (.mp k)) (hu : P.underlying tM = some (.map kt et)) (hkit : kit ∉ σ1.ids)
    (hNo : oN.op = .next (.tmp tI) false) (hNt : oN.dst = some tN) (hNg : oN.guard = none) (hEo : oE.op = .extract (.tmp tN) 0) (hEt : oE.dst = some tB) (hEg : oE.guard = none)
    (hJ : ∀ i, tN < (J i).n ∧ tB < (J i).n ∧ tI ≠ tN ∧ tI ≠ tB ∧ lk (J i).slots tI = some (.ptr kit 0 0))
    (h0 : SubS ⟨σ1.n, st σ1.slots tI (.ptr kit 0 0), σ1.objs, kit :: σ1.ids⟩ (J i0)) (ht0 : todo i0 = rows)
    (hexit : ∀ i, todo i = [] → Q .normal (nxS (J i) tN tB false))
    (round : ∀ i l1 e l2, todo i = l1 ++ e :: l2 → ∀ B2 : Base, B2.D = [] → B2.ro = B.ro → B2.I0 = (J i).ids → FMap B2 k rows → FEnt P B2 kit e → SPD P B2 body (nxS (J i) tN tB true) (Kmap J todo (l1 ++ l2) (Kblk i2 Q))) :
    SPD P B (.seq (.region id1 ops1 false) (.block i2 (.loop (.seq (.region id2 ops2 false) (.seq (.cond (.tmp tB) .skip (.exit i2)) body))))) σ Q := fun G w a hr => by
  subst ho1 ho2
  obtain ⟨bm, xm, es, clock, m1, m2, m3, m4, m5, m6⟩ := hF
  have hst := (MapKept.stamped_iff es clock).1 m5
  refine wpIn_seq (wpIn_region_list (ops := #[oM, oR]) ?_)
  show wpListIn (FR B.ro) 0 P #[oM, oR] _ [oM, oR] a w
  unfold wpListIn
  refine stepA_ok (B := B) (D := B.D) hTT hPT hM hr _ _ fun G1 w1 a1 hle1 hr1 => ?_
  unfold wpListIn
  rw [if_pos (wantA_ok hr1 hRw)]
  have hv := mp_block (hr1.heap.fix k _ m1) (hr1.ev hx)
  have hmw1 : w1.heap[bm]? = some (.map es clock) := (hr1.heap.old bm m2 m3).trans m4
  have hrun : (execOp a1.eval oR).run P w1 = .ok (.value (.pointer (some ⟨w1.heap.size, 0, none⟩))) (w1.alloc (.mapIter (some bm) clock #[] clock)) := by
    unfold execOp
    rw [hRo]
    simp [hv, run_range_map w1 tM kt et bm es clock hu hmw1]
  refine wp_FR (fun c hc => by rw [hRo] at hc; cases hc) ?_
  unfold Oper.wp
  rw [hrun]
  show (Code.block i2 _).wpIn (FR B.ro) 0 P (PostD B Q) (a1.put oR.dst (.pointer (some ⟨w1.heap.size, 0, none⟩))) (w1.alloc (.mapIter (some bm) clock #[] clock))
  have hsz1 := hr1.heap.size
  have hb1 : Below w1.heap.size w1 (w1.alloc (.mapIter (some bm) clock #[] clock)) := (Below.refl _ w1).alloc (Nat.le_refl _) _
  have hr2 := (hr1.more hb1).name hkit (some w1.heap.size, 0, 0, 0)
  have hlk : (G1.add kit (some w1.heap.size, 0, 0, 0)).loc kit = some (some w1.heap.size, 0, 0, 0) := Gh.add_self
  have hit0 : (w1.alloc (.mapIter (some bm) clock #[] clock)).heap[w1.heap.size]? = some (.mapIter (some bm) clock #[] clock) := World.alloc_heap_new w1 _
  have hpv : Rv (G1.add kit (some w1.heap.size, 0, 0, 0)) (.ptr kit 0 0) (.pointer (some ⟨w1.heap.size, 0, none⟩)) := by simpa using Rv.ptr kit 0 0 w1.heap.size 0 0 0 hlk
  have hr3 := R.put (B := B) (a := a1) (dst := oR.dst) hr2 (fun d hdd => R.dst (G := G1) (w := w1) (a := a1) (σ := σ1) hRd d hdd) hpv
  rw [hRt] at hr3 ⊢
  have hr4 : R B (G1.add kit (some w1.heap.size, 0, 0, 0)) (J i0) _ _ := R.subS hr3 h0
  generalize w1.heap.size = r at hr4 hlk hit0 hsz1
  generalize (w1.alloc (.mapIter (some bm) clock #[] clock)) = w1' at hr4 hit0 ⊢
  refine wp_blockD (wpIn_loop_ghost (fun n a w => ∃ i G seen, (todo i).length = n ∧ R B G (J i) w a ∧ G.loc kit = some (some r, 0, 0, 0) ∧ w.heap[r]? = some (.mapIter (some bm) clock seen clock) ∧ (es.toList.filter fun x => !seen.contains x.born).map (fun e => (e.key, e.val)) = todo i) (todo i0).length ⟨i0, _, #[], rfl, hr4, hlk, hit0, by rw [ht0, ← m6, List.filter_eq_self.2 (fun x _ => by simp)]⟩ ?_)
  clear hr4 hlk hit0 hrun hr3 hpv hr2 hb1 hmw1 hv hr1 hle1 hr
  rintro n a2 w2 ⟨i, G2, seen, rfl, hri, hlk2, hit, htd⟩
  obtain ⟨j1, j2, j3, j4, j5⟩ := hJ i
  refine wpIn_seq (wpIn_region_list (ops := #[oN, oE]) ?_)
  show wpListIn (FR B.ro) 0 P #[oN, oE] _ [oN, oE] a2 w2
  have hmw : w2.heap[bm]? = some (.map es clock) := (hri.heap.old bm m2 m3).trans m4
  have hiv : a2.eval (.tmp tI) = .pointer (some ⟨r, 0, none⟩) := it_block hlk2 (hri.ev (x := .tmp tI) j5)
  have hwN : ∀ y, Region.wanted oN y = true := fun y => by simp [Region.wanted, hNg]
  have hwE : ∀ y, Region.wanted oE y = true := fun y => by simp [Region.wanted, hEg]
  have hget : ∀ v : Value, (a2.put (some tN) v).tmps.getD tN undef = v := fun v => by
    have := hri.n
    simp [Act.put, Array.getElem?_setIfInBounds, show tN < a2.tmps.size by omega]
  have hputs : ∀ (G : Gh) (w : World) (v : Value) (b : Bool), R B G (J i) w a2 → R B G (nxS (J i) tN tB b) w ((a2.put (some tN) v).put (some tB) (.bool b)) := fun G w v b h =>
    (h.put (dst := some tN) (av := .any) (x := v) (fun d hd => by cases hd; exact j1) (.any v)).put (dst := some tB) (av := .v (.bool b)) (x := .bool b) (fun d hd => by cases hd; exact j2) (.v _)
  have hev : ∀ (G : Gh) (w : World) (a : Act) (b : Bool), R B G (nxS (J i) tN tB b) w a → a.eval (.tmp tB) = .bool b := fun G w a b h => (h.ev (x := .tmp tB) (show lk (st (st (J i).slots tN .any) tB (.v (.bool b))) tB = some (.v (.bool b)) by rw [lk_st, if_pos rfl])).v_eq
  rcases run_next_at (P := P) w2 oN.type r bm clock clock seen es clock hit hmw hst.1 (Nat.le_refl _) with ⟨hz, hrn⟩ | ⟨e, he, w3, hw3, hrn⟩
  · have htd0 : todo i = [] := by
      rw [← htd]
      have h1 : (leftOf es seen).toList = es.toList.filter fun x => !seen.contains x.born := by unfold leftOf; simp
      have h2 : (leftOf es seen).toList = [] := List.eq_nil_of_length_eq_zero (by simpa using hz)
      rw [← h1, h2]; rfl
    have hrunN : (execOp a2.eval oN).run P w2 = .ok (.value (.tuple #[.bool false])) w2 := by
      unfold execOp
      rw [hNo]
      simp [hiv, hrn]
    unfold wpListIn
    rw [if_pos (hwN _)]
    refine wp_FR (fun c hc => by rw [hNo] at hc; cases hc) ?_
    unfold Oper.wp
    rw [hrunN]
    show wpListIn (FR B.ro) 0 P #[oN, oE] _ [oE] (a2.put oN.dst (.tuple #[.bool false])) w2
    rw [hNt]
    unfold wpListIn
    rw [if_pos (hwE _)]
    refine wp_FR (fun c hc => by rw [hEo] at hc; cases hc) ?_
    unfold Oper.wp
    rw [ext_ok (P := P) (w := w2) (b := false) (vs := []) hEo (hget _)]
    show Code.wpIn (FR B.ro) 0 P _ _ ((a2.put (some tN) (.tuple #[.bool false])).put oE.dst (.bool false)) w2
    rw [hEt]
    have hr6 := hputs G2 w2 (.tuple #[.bool false]) false hri
    exact wpIn_seq (wpIn_cond_false (hev _ _ _ _ hr6) (wpIn_exit ⟨G2, _, hr6, k_blk_exit (hexit i htd0)⟩))
  · have he2 : e ∈ es.toList.filter fun x => !seen.contains x.born := by
      have h1 : (leftOf es seen).toList = es.toList.filter fun x => !seen.contains x.born := by unfold leftOf; simp
      rw [← h1]; exact he
    obtain ⟨l1, l2, p1, p2⟩ := left_push hst.2.1 he2
    have hem : e ∈ es.toList := (List.mem_filter.1 he2).1
    have hri3 : R B G2 (J i) w3 a2 := by
      rcases hw3 with rfl | rfl
      · exact hri
      · exact hri.drew
    have hit3 : w3.heap[r]? = some (.mapIter (some bm) clock seen clock) := by
      rcases hw3 with rfl | rfl <;> exact hit
    have hri4 : R B G2 (J i) (w3.putObj r (.mapIter (some bm) clock (seen.push e.born) clock)) a2 := hri3.turnNew hsz1 (by rw [hD]; simp) hit3 (by simp)
    have hit4 : (w3.putObj r (.mapIter (some bm) clock (seen.push e.born) clock)).heap[r]? = some (.mapIter (some bm) clock (seen.push e.born) clock) := World.putObj_heap_same (Array.getElem?_eq_some_iff.1 hit3).1
    have hrunN : (execOp a2.eval oN).run P w2 = .ok (.value (.tuple #[.bool true, e.key, e.val])) (w3.putObj r (.mapIter (some bm) clock (seen.push e.born) clock)) := by
      unfold execOp
      rw [hNo]
      simp [hiv, hrn]
      rfl
    generalize (w3.putObj r (.mapIter (some bm) clock (seen.push e.born) clock)) = w4 at hri4 hit4 hrunN
    have hm4 : w4.heap[bm]? = some (.map es clock) := (hri4.heap.old bm m2 m3).trans m4
    unfold wpListIn
    rw [if_pos (hwN _)]
    refine wp_FR (fun c hc => by rw [hNo] at hc; cases hc) ?_
    unfold Oper.wp
    rw [hrunN]
    show wpListIn (FR B.ro) 0 P #[oN, oE] _ [oE] (a2.put oN.dst (.tuple #[.bool true, e.key, e.val])) w4
    rw [hNt]
    unfold wpListIn
    rw [if_pos (hwE _)]
    refine wp_FR (fun c hc => by rw [hEo] at hc; cases hc) ?_
    unfold Oper.wp
    rw [ext_ok (P := P) (w := w4) (b := true) (vs := [e.key, e.val]) hEo (hget _)]
    show Code.wpIn (FR B.ro) 0 P _ _ ((a2.put (some tN) (.tuple #[.bool true, e.key, e.val])).put oE.dst (.bool true)) w4
    rw [hEt]
    have hr6 := hputs G2 w4 (.tuple #[.bool true, e.key, e.val]) true hri4
    have htd2 : todo i = l1.map (fun e => (e.key, e.val)) ++ (e.key, e.val) :: l2.map (fun e => (e.key, e.val)) := by rw [← htd, p1, List.map_append, List.map_cons]
    have hrl := (Array.getElem?_eq_some_iff.1 hit4).1
    have hrb := hr6.not_block hit4 (by simp)
    have hF2 : FMap (Base.sub G2 (nxS (J i) tN tB true) w4 B.ro) k rows := FMap.sub ⟨bm, xm, es, clock, m1, m2, m3, m4, m5, m6⟩ hr6 B.ro
    have hE2 : FEnt P (Base.sub G2 (nxS (J i) tN tB true) w4 B.ro) kit (e.key, e.val) := ⟨r, bm, hlk2, hrl, hrb, Nat.lt_of_lt_of_le m2 hri4.heap.size, old_block hr6 m2 m3, fun w h1 h2 => run_entry_at w r bm clock seen es clock e (h1.trans hit4) (h2.trans hm4) hem hst.2.1⟩
    have hb := round i _ _ _ htd2 (Base.sub G2 (nxS (J i) tN tB true) w4 B.ro) rfl rfl rfl hF2 hE2 G2 w4 _ (hr6.here hD B.ro)
    refine wpIn_seq (wpIn_cond_true (hev _ _ _ _ hr6) (wpIn_skip ?_))
    refine wpIn_mono hb fun ex a7 w7 hq => ?_
    obtain ⟨G7, τ, hr7, hq⟩ := hq
    obtain ⟨hle7, hr8⟩ := hr6.hence hD hr7
    cases ex <;> first
      | (
         obtain ⟨j, hj, hs⟩ := hq
         exact ⟨(todo j).length, by rw [hj, htd2]; simp, j, G7, seen.push e.born, rfl, hr8.subS hs, hle7.loc _ _ hlk2, (hr7.heap.old r hrl hrb).trans hit4, by rw [p2, List.map_append, hj]⟩)
      | exact ⟨G7, τ, hr8, hq⟩
end dd
end Go.Proofs.YtafikekndefjcaaDoor
