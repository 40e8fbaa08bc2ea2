/- An abstract machine for the text, part nineteen: code that runs without any unknown, run; plain lemmas over any program; no condition. -/
import Derived.Test.YtkollnaojpppcaaAm18b
import Derived.LoopNIn
namespace Go.Proofs.Ytkollnaojpppcaa
open Go.RowKit

/-- The round that a call of yield runs. -/
structure Env where
  yk : Nat
  n : Nat
  slots : List (Nat × AV)
  ps : Array Tmp
  assign : Code
  body : Code
abbrev RunT := Bool → Option Env → Code → AS → Option (Exit × AS)
def noPT : PTab := fun _ _ => none
theorem noPT_ok (P : Program) : PTok P noPT := fun f args r fr h => by cases h
def noT : FuncId → Bool := fun _ => false
/-- The next name. -/
def nx (ids : List Nat) : Nat := match ids with
  | [] => 0
  | k :: _ => k + 1
def isEnd (e : Exit) : Bool := match e with
  | .normal | .ret => true
  | _ => false
/-- Objects of these names that hold no names. -/
def leafD (σ : AS) (L : List Nat) (k : Nat) : Bool := L.contains k && match lk σ.objs k with
  | some ob => (idsLL ob.xs).isEmpty
  | none => false
/-- Objects are let go, the innermost first. -/
def AS.deep (L : List Nat) : Nat → AS → AS
  | 0, σ => σ
  | n + 1, σ => AS.deep L n (σ.frz (leafD σ L))
/-- What a value leads to. -/
def reach (σ : AS) : Nat → List Nat → List Nat
  | 0, L => L
  | n + 1, L => L ++ reach σ n (L.flatMap fun k => match lk σ.objs k with
    | some ob => idsLL ob.xs
    | none => [])
/-- The slices that a value holds. -/
def refsV (σ : AS) : AV → List Nat
  | .ref k _ _ => [k]
  | .agg cs => cs.flatMap fun c => match c with
    | .ref k _ _ => [k]
    | _ => []
  | .ptr k _ _ => match lk σ.objs k with
    | some ob => ob.xs.flatMap fun r => r.flatMap fun c => match c with
      | .ref q _ _ => [q]
      | _ => []
    | none => []
  | _ => []
def findD (t : Nat) : List Oper → Option Oper → Option Oper
  | [], r => r
  | o :: ops, r => findD t ops (match o.dst with
    | some d => if Nat.beq d t = true then some o else r
    | none => r)
def rootsX (σ : AS) (ops : List Oper) : Nat → Operand → List Nat
  | 0, _ => []
  | n + 1, .tmp t => match findD t ops none with
    | some o => match o.op with
      | .move y => rootsX σ ops n y
      | .assign y => rootsX σ ops n y
      | .load _ y => rootsX σ ops n y
      | .fieldAddr _ y _ => rootsX σ ops n y
      | .indexAddr _ y _ => rootsX σ ops n y
      | .nilCheck y => rootsX σ ops n y
      | .field _ y _ => rootsX σ ops n y
      | .extract y _ => rootsX σ ops n y
      | .slice _ y _ _ _ => rootsX σ ops n y
      | .build _ ps => ps.toList.flatMap fun p => rootsX σ ops n p.2
      | _ => []
    | none => match lk σ.slots t with
      | some av => refsV σ av
      | none => []
  | _ + 1, _ => []
/-- The slices that the calls of a region are handed. -/
def rootsR (σ : AS) (ops : List Oper) : List Nat := ops.flatMap fun o => match o.op with
  | .call { callee := .value _, args := args, argTypes := _ } => args.toList.flatMap fun x => rootsX σ ops 10 x
  | _ => []
theorem s_deep {P : Program} {B : Base} {c : Code} {Q : Exit → AS → Prop} (L : List Nat) : ∀ (n : Nat) {σ : AS}, SP P B c (σ.deep L n) Q → SP P B c σ Q
  | 0, _, k => k
  | n + 1, _, k => s_frz _ (s_deep L n k)
theorem R.deep {B : Base} {w : World} {a : Act} (L : List Nat) : ∀ (n : Nat) {G : Gh} {σ : AS}, R B G σ w a → ∃ G', R B G' (σ.deep L n) w a
  | 0, G, _, h => ⟨G, h⟩
  | n + 1, _, _, h => R.deep L n (h.frz _)
theorem sp_then {P : Program} {B : Base} {c : Code} {σ : AS} {Q : Exit → AS → Prop} (F : AS → AS) (hF : ∀ (B : Base) (G : Gh) (τ : AS) (w : World) (a : Act), R B G τ w a → ∃ G', R B G' (F τ) w a) (h : SP P B c σ (fun e τ => Q e (F τ))) : SP P B c σ Q := fun D G w a hr => by
  refine wpIn_mono (h D G w a hr) fun e a' w' hq => ?_
  obtain ⟨D', G', τ, hr', hq'⟩ := hq
  obtain ⟨G2, hr2⟩ := hF _ _ _ _ _ hr'
  exact ⟨D', G2, _, hr2, hq'⟩
section defs
variable (P : Program) (TT : TTab) (PT : PTab) (T : FuncId → Bool)
def callI (run : RunT) (f : FuncId) (avs : List AV) (E : Option Env) (objs : List (Nat × AObj)) (ids : List Nat) : Option (AV × List (Nat × AObj) × List Nat) :=
  if fnB P f = true then
    match P.funcs[f]? with
    | some fn => match fn.body with
      | some c => if Nat.ble avs.length fn.ntmps = true then
          match run false E c ⟨fn.ntmps, enumA 0 avs, objs, ids⟩ with
          | some (e, τ) => if isEnd e = true then
              match retA TT τ fn.results.toList with
              | some av => some (av, τ.objs, τ.ids)
              | none => none
            else none
          | none => none
        else none
      | none => none
    | none => none
  else none
def roundI (run : RunT) (E : Env) (avs : List AV) (objs : List (Nat × AObj)) (ids : List Nat) : Option (List (Nat × AObj) × List Nat) :=
  if Nat.beq avs.length E.ps.size = true then
    match run true none E.assign ⟨E.n, setps E.slots E.ps.toList avs, objs, ids⟩ with
    | some (.normal, τ1) => match run true none E.body τ1 with
      | some (.normal, τ2) => some (τ2.objs, τ2.ids)
      | _ => none
    | _ => none
  else none
def opC (run : RunT) (E : Option Env) (σ : AS) (o : Oper) (x : Operand) (args : List Operand) : Option AS :=
  match σ.evs args with
  | some avs => match σ.ev x with
    | some (.yld k) => match E with
      | some env => if Nat.beq env.yk k = true then
          match roundI run env avs σ.objs σ.ids with
          | some r => some (AS.put ⟨σ.n, σ.slots, r.1, r.2⟩ o.dst (.v (.bool true)))
          | none => none
        else none
      | none => none
    | _ => match σ.callee x with
      | some (f, cs) => match callI P TT run f (avs ++ cs) none σ.objs σ.ids with
        | some r => some (AS.put ⟨σ.n, σ.slots, r.2.1, r.2.2⟩ o.dst r.1)
        | none => none
      | none => none
  | none => none
/-- Which function value is called, with which operands. -/
def asCall (o : Oper) : Option (Operand × Array Operand × Array TypeId) := match o.op with
  | .call { callee := .value x, args := args, argTypes := ts } => some (x, args, ts)
  | _ => none
/-- Is it a function of the table? -/
def inT (σ : AS) (x : Operand) : Bool := match σ.callee x with
  | some (f, _) => T f
  | none => false
def opI (run : RunT) (E : Option Env) (ops : Array Oper) (σ : AS) (o : Oper) : Option AS :=
  match asCall o with
  | some (x, args, _) => if inT T σ x = true then stepA TT PT ops (nx σ.ids) σ o else if dstOk σ o = true then
      match wantA σ ops o with
      | some true => opC P TT run E σ o x args.toList
      | some false => some (σ.put o.dst (.v undef))
      | none => none
    else none
  | none => stepX TT PT ops (nx σ.ids) σ o
/-- What a call computes, where the order is open. -/
def frzR (fn : Func) (τ : AS) : AS := match retA TT τ fn.results.toList with
  | some av => if av.ids.isEmpty then τ else τ.deep (reach τ 3 av.ids) 3
  | none => τ
def callP (run : RunT) (f : FuncId) (avs : List AV) : Option AV :=
  if fnB P f = true then
    match P.funcs[f]? with
    | some fn => match fn.body with
      | some c => if Nat.ble avs.length fn.ntmps = true then
          match run false none c ⟨fn.ntmps, enumA 0 avs, [], []⟩ with
          | some (e, τ) => if isEnd e = true then
              match retA TT (frzR TT fn τ) fn.results.toList with
              | some av => (frzR TT fn τ).shut (fun _ => true) av
              | none => none
            else none
          | none => none
        else none
      | none => none
    | none => none
  else none
def pureI (run : RunT) : PTab := fun f avs => if T f = true then PT f avs else
  match callP P TT run f avs with
  | some res => some (res, false)
  | none => none
/-- A region that leaves its order open. -/
def drawI (run : RunT) (ops : Array Oper) (σ : AS) : Option AS := match runE TT (pureI P TT PT T run) ops ops.toList (nxt σ) σ with
  | some (τ, es) => if ordOk ops.toList es = true then some τ else none
  | none => none
def opsI (run : RunT) (E : Option Env) (ops : Array Oper) : List Oper → AS → Option AS
  | [], σ => some σ
  | o :: r, σ => match opI P TT PT T run E ops σ o with
    | some σ' => opsI run E ops r σ'
    | none => none
/-- Code, run; the number is fuel; the Boolean says that it is a round. -/
def runI : Nat → Bool → Option Env → Code → AS → Option (Exit × AS)
  | 0, _, _, _, _ => none
  | n + 1, R, E, c, σ => match c with
    | .skip => some (.normal, σ)
    | .ret => some (.ret, σ)
    | .exit i => some (.exit i, σ)
    | .seq a b => match runI n R E a σ with
      | some (.normal, τ) => runI n R E b τ
      | r => r
    | .cond x a b => match σ.ev x with
      | some (.v (.bool true)) => runI n R E a σ
      | some (.v (.bool false)) => runI n R E b σ
      | _ => none
    | .block i a => match runI n R E a σ with
      | some (.exit j, τ) => if Nat.beq j i = true then some (.normal, τ) else some (.exit j, τ)
      | r => r
    | .loop a => match runI n R E a σ with
      | some (.normal, τ) => runI n R E (.loop a) τ
      | r => r
    | .region _ ops false => match opsI P TT PT T (runI n) E ops ops.toList σ with
      | some τ => some (.normal, τ)
      | none => none
    | .region _ ops true => match drawI P TT PT T (runI n) ops σ with
      | some τ => some (.normal, τ)
      | none => match drawI P TT PT T (runI n) ops (σ.deep (reach σ 3 (rootsR σ ops.toList)) 3) with
        | some τ => some (.normal, τ)
        | none => none
    | .rangeFunc g ps assign body => match R with
      | true => none
      | false => match σ.callee g with
        | some (f, cs) => if σ.ids.contains (nx σ.ids) = true then none else
            if ps.toList.all (fun t => Nat.blt t σ.n) = true then
              match callI P TT (runI n) f (.yld (nx σ.ids) :: cs) (some ⟨nx σ.ids, σ.n, σ.slots, ps, assign, body⟩) σ.objs (nx σ.ids :: σ.ids) with
              | some r => some (.normal, ⟨σ.n, σ.slots, r.2.1, r.2.2⟩)
              | none => none
            else none
        | none => none
    | _ => none
end defs

section sound
variable {P : Program} {TT : TTab} {PT : PTab} {T : FuncId → Bool} {B : Base} {σ : AS} {Q : Exit → AS → Prop}
/-- It runs to this. -/
def To (r : Exit × AS) (e : Exit) (τ : AS) : Prop := e = r.1 ∧ τ = r.2
/-- What is known of a run: without a round of its own, and with one. -/
def EnvOk (P : Program) (B : Base) (E : Option Env) : Prop := ∀ e, E = some e → YieldOk P B e.yk e.n e.slots e.ps e.assign e.body
def RunOk (P : Program) (run : RunT) : Prop := ∀ R E c σ r, run R E c σ = some r → ∀ B : Base, (R = false → B.ro = none) → EnvOk P B E → SP P B c σ (To r)

theorem callI_ok {run : RunT} (hrun : RunOk P run) {f : FuncId} {avs : List AV} {E : Option Env} {objs : List (Nat × AObj)} {ids : List Nat} {r : AV × List (Nat × AObj) × List Nat} (h : callI P TT run f avs E objs ids = some r) :
    fnB P f = true ∧ ∃ fn c, P.funcs[f]? = some fn ∧ fn.body = some c ∧ avs.length ≤ fn.ntmps ∧ ∀ B : Base, B.ro = none → EnvOk P B E → SP P B c ⟨fn.ntmps, enumA 0 avs, objs, ids⟩ (fun e τ => (e = .normal ∨ e = .ret) ∧ ∃ av, retA TT τ fn.results.toList = some av ∧ (av, τ.objs, τ.ids) = r) := by
  unfold callI at h
  split at h
  · rename_i hB
    refine ⟨hB, ?_⟩
    split at h
    · rename_i fn hfn
      split at h
      · rename_i c hc
        split at h
        · rename_i hle
          refine ⟨fn, c, hfn, hc, Nat.le_of_ble_eq_true hle, fun B hro hE => ?_⟩
          split at h
          · rename_i e τ hr
            split at h
            · rename_i he
              split at h
              · rename_i av hav
                cases h
                refine sp_mono (hrun _ _ _ _ _ hr B (fun _ => hro) hE) fun e' τ' ht => ?_
                obtain ⟨h1, h2⟩ := ht
                subst h2
                refine ⟨?_, av, hav, rfl⟩
                have h3 : e' = e := h1
                subst h3
                cases e' <;> first | exact .inl rfl | exact .inr rfl | cases he
              · cases h
            · cases h
          · cases h
        · cases h
      · cases h
    · cases h
  · cases h
theorem asCall_eq {o : Oper} {x : Operand} {args : Array Operand} {ts : Array TypeId} (h : asCall o = some (x, args, ts)) : o.op = .call { callee := .value x, args := args, argTypes := ts } := by
  unfold asCall at h
  split at h
  · rename_i ho; cases h; exact ho
  · cases h
theorem spl_skip {ops : Array Oper} {o : Oper} {r : List Oper} (hd : dstOk σ o = true) (hw : wantA σ ops o = some false) (k : SPL P B ops r (σ.put o.dst (.v undef)) Q) : SPL P B ops (o :: r) σ Q := fun D G w a hr => by
  unfold wpListIn
  rw [if_neg (by rw [wantA_ok hr hw]; simp)]
  exact ⟨fun _ _ => trivial, k D G w _ (hr.put (R.dst (G := G) (w := w) (a := a) (σ := σ) hd) (.v _))⟩
theorem opI_ok (hTT : TTok P TT) (hPT : PTok P PT) {run : RunT} (hrun : RunOk P run) {E : Option Env} {ops : Array Oper} {o : Oper} {r : List Oper} {σ' : AS} (h : opI P TT PT T run E ops σ o = some σ') (hE : EnvOk P B E) (k : SPL P B ops r σ' Q) : SPL P B ops (o :: r) σ Q := by
  unfold opI at h
  split at h
  · rename_i x args ts ha
    have ho := asCall_eq ha
    split at h
    · exact spl_step hTT hPT h k
    split at h
    · rename_i hd
      split at h
      · rename_i hw
        unfold opC at h
        split at h
        · rename_i avs hev
          split at h
          · rename_i y hx
            split at h
            · rename_i env
              split at h
              · rename_i hy
                have hy' : env.yk = y := Nat.eq_of_beq_eq_true hy
                split at h
                · rename_i rr hrr
                  cases h
                  unfold roundI at hrr
                  split at hrr
                  · rename_i hlen
                    split at hrr
                    · rename_i τ1 h1
                      split at hrr
                      · rename_i τ2 h2
                        cases hrr
                        refine hE env rfl ops o r σ Q x args ts avs hd hw ho (by rw [hy']; exact hx) hev (Nat.eq_of_beq_eq_true hlen) fun B1 hI1 hro1 => ?_
                        refine sp_mono (hrun _ _ _ _ _ h1 B1 (fun e => by cases e) (fun e he => by cases he)) fun e τ ht => ?_
                        obtain ⟨rfl, rfl⟩ := ht
                        refine ⟨rfl, fun B2 hI2 hro2 => ?_⟩
                        refine sp_mono (hrun _ _ _ _ _ h2 B2 (fun e => by cases e) (fun e he => by cases he)) fun e τ ht => ?_
                        obtain ⟨rfl, rfl⟩ := ht
                        exact ⟨rfl, k⟩
                      · cases hrr
                    · cases hrr
                  · cases hrr
                · cases h
              · cases h
            · cases h
          · split at h
            · rename_i f cs hx
              split at h
              · rename_i rr hrr
                cases h
                obtain ⟨hB, fn, c, hf, hb, hle, hsp⟩ := callI_ok hrun hrr
                refine spl_call hTT hd hw ho hB hf hb hx hev hle fun B' hI hro => ?_
                refine sp_mono (hsp B' hro (fun e he => by cases he)) fun e τ ⟨he, av, hav, heq⟩ => ⟨he, av, hav, ?_⟩
                have h1 : av = rr.1 := by rw [← heq]
                have h2 : τ.objs = rr.2.1 := by rw [← heq]
                have h3 : τ.ids = rr.2.2 := by rw [← heq]
                rw [h1, h2, h3]
                exact k
              · cases h
            · cases h
        · cases h
      · rename_i hw
        cases h
        exact spl_skip hd hw k
      · cases h
    · cases h
  · exact spl_stepX hTT hPT h k
theorem opsI_ok (hTT : TTok P TT) (hPT : PTok P PT) {run : RunT} (hrun : RunOk P run) {E : Option Env} {ops : Array Oper} (hE : EnvOk P B E) : ∀ (l : List Oper) (σ σ' : AS), opsI P TT PT T run E ops l σ = some σ' → Q .normal σ' → SPL P B ops l σ Q
  | [], σ, σ', h, k => by
    simp only [opsI, Option.some.injEq] at h
    subst h
    exact spl_nil k
  | o :: r, σ, σ', h, k => by
    simp only [opsI] at h
    split at h
    · rename_i σ1 h1
      exact opI_ok hTT hPT hrun h1 hE (opsI_ok hTT hPT hrun hE r σ1 σ' h k)
    · cases h
theorem frzR_ok {fn : Func} {B : Base} {G : Gh} {τ : AS} {w : World} {a : Act} (hr : R B G τ w a) : ∃ G', R B G' (frzR TT fn τ) w a := by
  unfold frzR
  split
  · split
    · exact ⟨G, hr⟩
    · exact R.deep _ 3 hr
  · exact ⟨G, hr⟩
theorem pure_call (hTT : TTok P TT) {run : RunT} (hrun : RunOk P run) {f : FuncId} {args : List AV} {res : AV} (h : callP P TT run f args = some res) : fnB P f = true ∧ FnPure P f args res := by
  unfold callP at h
  split at h
  · rename_i hB
    refine ⟨hB, ?_⟩
    split at h
    · rename_i fn hfn
      split at h
      · rename_i c hc
        split at h
        · rename_i hle
          split at h
          · rename_i e τ hr
            split at h
            · rename_i he
              split at h
              · rename_i av hav
                refine fn_sp hTT hfn hc (Nat.le_of_ble_eq_true hle) fun B _ hro => sp_then (frzR TT fn) (fun B G τ w a hr => frzR_ok hr) (sp_mono (hrun _ _ _ _ _ hr B (fun _ => hro) (fun e he => by cases he)) fun e' τ' ht => ?_)
                obtain ⟨h1, h2⟩ := ht
                subst h2
                refine ⟨?_, av, hav, h⟩
                have h3 : e' = e := h1
                subst h3
                cases e' <;> first | exact .inl rfl | exact .inr rfl | cases he
              · cases h
            · cases h
          · cases h
        · cases h
      · cases h
    · cases h
  · cases h
theorem pureI_ok (hTT : TTok P TT) (hPT : PTok P PT) {run : RunT} (hrun : RunOk P run) : PTok P (pureI P TT PT T run) := fun f args res fr h => by
  unfold pureI at h
  split at h
  · exact hPT f args res fr h
  · split at h
    · rename_i res' hc
      cases h
      obtain ⟨h1, h2⟩ := pure_call hTT hrun hc
      exact ⟨h1, h2, fun e => by cases e⟩
    · cases h
theorem drawI_ok (hP : P.follows .mixedOrders = true) (hTT : TTok P TT) (hPT : PTok P PT) {run : RunT} (hrun : RunOk P run) {id : Nat} {ops : Array Oper} {τ : AS} (h : drawI P TT PT T run ops σ = some τ) (k : Q .normal τ) : SP P B (.region id ops true) σ Q := by
  unfold drawI at h
  split at h
  · rename_i τ' es h1
    split at h
    · rename_i hok
      cases h
      exact s_draw hP hTT (pureI_ok hTT hPT hrun) h1 hok k
    · cases h
  · cases h
/-- A RUN IS WHAT THE CODE DOES. -/
theorem runI_ok (hP : P.follows .mixedOrders = true) (hTT : TTok P TT) (hPT : PTok P PT) : ∀ n, RunOk P (runI P TT PT T n)
  | 0 => fun R E c σ r h => by cases h
  | n + 1 => by
    have ih := runI_ok hP hTT hPT n
    intro Rd E c σ r h B hro hE
    cases c with
    | skip => simp only [runI, Option.some.injEq] at h; subst h; exact sp_skip ⟨rfl, rfl⟩
    | ret => simp only [runI, Option.some.injEq] at h; subst h; exact sp_ret ⟨rfl, rfl⟩
    | exit i => simp only [runI, Option.some.injEq] at h; subst h; exact sp_exit ⟨rfl, rfl⟩
    | seq a b =>
      simp only [runI] at h
      split at h
      · rename_i τ h1
        refine sp_seq (sp_mono (ih _ _ _ _ _ h1 B hro hE) fun e τ' ht => ?_)
        obtain ⟨rfl, rfl⟩ := ht
        exact ih _ _ _ _ _ h B hro hE
      · rename_i hne
        refine sp_seq (sp_mono (ih _ _ _ _ _ h B hro hE) fun e τ' ht => ?_)
        obtain ⟨rfl, rfl⟩ := ht
        obtain ⟨e, τ⟩ := r
        cases e <;> first | exact absurd h (hne _) | exact ⟨rfl, rfl⟩
    | cond x a b =>
      simp only [runI] at h
      split at h
      · rename_i hx
        exact sp_cond hx (fun _ => ih _ _ _ _ _ h B hro hE) (fun e => by cases e)
      · rename_i hx
        exact sp_cond hx (fun e => by cases e) (fun _ => ih _ _ _ _ _ h B hro hE)
      · cases h
    | block i a =>
      simp only [runI] at h
      split at h
      · rename_i j τ h1
        refine sp_block (sp_mono (ih _ _ _ _ _ h1 B hro hE) fun e τ' ht => ?_)
        obtain ⟨rfl, rfl⟩ := ht
        split at h
        · rename_i hj
          cases h
          show if j = i then _ else _
          rw [if_pos (Nat.eq_of_beq_eq_true hj)]
          exact ⟨rfl, rfl⟩
        · rename_i hj
          cases h
          show if j = i then _ else _
          rw [if_neg (fun e => hj (by subst e; exact Nat.beq_refl _))]
          exact ⟨rfl, rfl⟩
      · rename_i hne
        refine sp_block (sp_mono (ih _ _ _ _ _ h B hro hE) fun e τ' ht => ?_)
        obtain ⟨rfl, rfl⟩ := ht
        obtain ⟨e, τ⟩ := r
        cases e <;> first | exact absurd h (hne _ _) | exact ⟨rfl, rfl⟩
    | loop a =>
      have key : ∀ m, m ≤ n + 1 → ∀ σ, runI P TT PT T m Rd E (.loop a) σ = some r → ∀ D G w ac, R (B.d D) G σ w ac → Code.roundsIn (FR B.ro) 0 P a (Post B (To r)) m ac w := by
        intro m
        induction m with
        | zero => intro _ σ h; cases h
        | succ m ihm =>
          intro hm σ h D G w ac hr
          have ihm' := ihm (by omega)
          have ihc : RunOk P (runI P TT PT T m) := runI_ok hP hTT hPT m
          simp only [runI] at h
          rw [roundsIn_succ]
          split at h
          · rename_i τ h1
            refine wpIn_mono (ihc _ _ _ _ _ h1 B hro hE D G w ac hr) fun e a' w' hq => ?_
            obtain ⟨D', G', τ', hr', g1, g2⟩ := hq
            have g3 : τ' = τ := g2
            have g4 : e = .normal := g1
            subst g3 g4
            exact ihm' _ h D' G' w' a' hr'
          · rename_i hne
            refine wpIn_mono (ihc _ _ _ _ _ h B hro hE D G w ac hr) fun e a' w' hq => ?_
            obtain ⟨D', G', τ', hr', rfl, rfl⟩ := hq
            obtain ⟨e, τ⟩ := r
            cases e <;> first | exact absurd h (hne _) | exact ⟨D', G', _, hr', rfl, rfl⟩
      exact fun D G w ac hr => wpIn_loop_rounds (n + 1) (key (n + 1) (Nat.le_refl _) σ h D G w ac hr)
    | region id ops dr =>
      cases dr with
      | false =>
        simp only [runI] at h
        split at h
        · rename_i τ h1
          cases h
          exact s_regionL (opsI_ok hTT hPT ih hE _ _ _ h1 ⟨rfl, rfl⟩)
        · cases h
      | true =>
        simp only [runI] at h
        split at h
        · rename_i τ h1
          cases h
          exact drawI_ok hP hTT hPT ih h1 ⟨rfl, rfl⟩
        · split at h
          · rename_i τ h1
            cases h
            exact s_deep _ 3 (drawI_ok hP hTT hPT ih h1 ⟨rfl, rfl⟩)
          · cases h
    | rangeFunc g ps assign body =>
      simp only [runI] at h
      split at h
      · cases h
      · split at h
        · rename_i f cs hg
          split at h
          · cases h
          · rename_i hin
            split at h
            · rename_i hps
              split at h
              · rename_i rr hrr
                cases h
                obtain ⟨hB, fn, c, hf, hb, hle, hsp⟩ := callI_ok ih hrr
                refine s_range hTT (nx σ.ids) (by simpa using hin) (hro rfl) hg hB hf hb hle (fun t ht => by
                  have := List.all_eq_true.1 hps t ht
                  exact Nat.le_of_ble_eq_true (by simpa [Nat.blt] using this)) fun B' hI hro' hY => ?_
                refine sp_mono (hsp B' hro' (fun e he => by cases he; exact hY)) fun e τ ⟨he, av, hav, heq⟩ => ⟨he, av, hav, ?_⟩
                have h1 : τ.objs = rr.2.1 := by rw [← heq]
                have h2 : τ.ids = rr.2.2 := by rw [← heq]
                exact ⟨rfl, by rw [h1, h2]⟩
              · cases h
            · cases h
        · cases h
    | _ => simp only [runI] at h; cases h

/-- A call whose arguments are known. -/
def resI (P : Program) (TT : TTab) (PT : PTab) (T : FuncId → Bool) (n : Nat) (f : FuncId) (args : List AV) : Option AV := callP P TT (runI P TT PT T n) f args
theorem fn_run (hP : P.follows .mixedOrders = true) (hTT : TTok P TT) (hPT : PTok P PT) {n : Nat} {f : FuncId} {args : List AV} {res : AV} (h : resI P TT PT T n f args = some res) : FnPure P f args res :=
  (pure_call hTT (runI_ok hP hTT hPT n) h).2
end sound
end Go.Proofs.Ytkollnaojpppcaa
