/- An abstract machine for the text, part twelve: one operation, computed; plain lemmas over any program; no condition. -/
import Derived.Test.YtkollnaojpppcaaAm11
namespace Go.Proofs.Ytkollnaojpppcaa
open Go.RowKit

/-- What is proved of functions that only compute. -/
abbrev PTab := FuncId → List AV → Option (AV × Bool)
def PTok (P : Program) (PT : PTab) : Prop := ∀ f args r fresh, PT f args = some (r, fresh) → fnB P f = true ∧ FnPure P f args r ∧ (fresh = true → FnFresh P f args r)

section core
variable (TT : TTab) (PT : PTab) (σ : AS) (id : Nat)

def cPick (c x y : Operand) : Option Res :=
  match σ.ev c with
  | some (.v (.bool t)) => (σ.ev (if t then x else y)).map fun a => (a, [])
  | _ => none
def cAlloc (t : TypeId) : Option Res :=
  match TT t with
  | some ti => if id ∈ σ.ids then none else some (.ptr id 0 0, [(id, some ⟨t, ti.size, [ti.zero.map .v]⟩)])
  | none => none
def cBox (t : TypeId) (x : Operand) : Option Res :=
  match TT t, σ.ev x with
  | some ti, some av => if av.flat = true ∧ av.cells.length = ti.size ∧ id ∉ σ.ids then some (.ptr id 0 0, [(id, some ⟨t, ti.size, [av.cells]⟩)]) else none
  | _, _ => none
def cBuild (t : TypeId) (ps : List (Nat × Operand)) : Option Res :=
  match TT t, σ.parts ps with
  | some ti, some l =>
    match ti.kind with
    | .strct fs => (fillA (fun i => (fs[i]?).map fun x : Nat × Nat × Bool => (x.1, x.2.1)) (ti.zero.map .v) l).map fun out => (.agg out, [])
    | .arr _ esz _ => (fillA (fun i => some (i * esz, esz)) (ti.zero.map .v) l).map fun out => (.agg out, [])
    | _ => none
  | _, _ => none
def cBuildS (t : TypeId) (n : Nat) (ps : List (Nat × Operand)) : Option Res :=
  match TT t, σ.parts ps with
  | some ti, some l =>
    match ti.kind with
    | .slice e esz _ ez =>
      match fillA (fun i => some (i * esz, esz)) (zeros ez (n * esz)) l with
      | some out => if n * esz ≤ 16777216 ∧ 0 < esz ∧ id ∉ σ.ids then some (.ref id 0 n, [(id, some ⟨e, esz, chunk esz n out⟩)]) else none
      | none => none
    | _ => none
  | _, _ => none
def cLoad (t : TypeId) (x : Operand) : Option Res :=
  match TT t, σ.ev x with
  | some ti, some (.ptr k e j) =>
    match lk σ.objs k with
    | some ob => if e < ob.xs.length ∧ j + ti.size ≤ ob.sz then some (ldA ti ((ob.xs.getD e []).drop j), []) else none
    | none => none
  | some ti, some (.pt cs) => if ti.size ≤ cs.length then some (ldA ti cs, []) else none
  | _, _ => none
def cStore (t : TypeId) (p x : Operand) : Option Res :=
  match TT t, σ.ev p, σ.ev x with
  | some ti, some (.ptr k e j), some av =>
    match lk σ.objs k with
    | some ob => if e < ob.xs.length ∧ j + ti.size ≤ ob.sz ∧ av.flat = true ∧ av.cells.length = ti.size then some (.v undef, [(k, some { ob with xs := ob.xs.set e (spl (ob.xs.getD e []) j av.cells) })]) else none
    | none => none
  | _, _, _ => none
def cNil (x : Operand) : Option Res :=
  match σ.ev x with
  | some (.ptr k e j) => some (.ptr k e j, [])
  | some (.pt cs) => some (.pt cs, [])
  | _ => none
def plainOf (t : TypeId) : Option TypeDesc :=
  match TT t with
  | some ti => match ti.kind with
    | .plain d => some d
    | _ => none
  | none => none
def cNilS (op : BinOp) (t : TypeId) (x : Operand) : Option Res :=
  match TT t, σ.ev x with
  | some ti, some av => match ti.kind, nilA av with
    | .slice _ _ _ _, some b => match op with
      | .eql => some (.v (.bool b), [])
      | .neq => some (.v (.bool !b), [])
      | _ => none
    | _, _ => none
  | _, _ => none
def cBin (op : BinOp) (t : TypeId) (x y : Operand) : Option Res :=
  if isNilS y = true then cNilS TT σ op t x else
  match σ.ev x, σ.ev y with
  | some (.v u), some (.v v) =>
    match sc2 (plainOf TT t) op u v with
    | some r => some (.v r, [])
    | none => match op, u, y, plainOf TT t with
      | .eql, .pointer none, .const (.pointer none), some (.pointer _) => some (.v (.bool true), [])
      | .neq, .pointer none, .const (.pointer none), some (.pointer _) => some (.v (.bool false), [])
      | _, _, _, _ => none
  | some (.agg cs), some (.agg ds) =>
    match TT t with
    | some ti => match ti.kind, ti.eqk with
      | .arr len _ _, some b => if cs.length = len then match op with
        | .eql => (eqAll b cs ds).map fun r => (.v (.bool r), [])
        | .neq => (eqAll b cs ds).map fun r => (.v (.bool !r), [])
        | _ => none
        else none
      | _, _ => none
    | none => none
  | some (.ptr _ _ _), _ => match op, y, plainOf TT t with
    | .eql, .const (.pointer none), some (.pointer _) => some (.v (.bool false), [])
    | .neq, .const (.pointer none), some (.pointer _) => some (.v (.bool true), [])
    | _, _, _ => none
  | _, _ => none
def cUn (op : UnOp) (x : Operand) : Option Res :=
  match σ.ev x with
  | some (.v u) => (sc1 op u).map fun r => (.v r, [])
  | _ => none
def cConv (s t : TypeId) (x : Operand) : Option Res :=
  match σ.ev x, TT s, plainOf TT t with
  | some (.v (.int _ n)), some _, some (.int k) => some (.v (.int k (k.wrap n)), [])
  | _, _, _ => none
def cMake (t : TypeId) (x y : Operand) : Option Res :=
  match TT t, σ.ev x, σ.ev y with
  | some ti, some (.v (.int _ n)), some (.v (.int _ m)) =>
    match ti.kind with
    | .slice e esz eb ez => if n = m ∧ 0 ≤ n ∧ (eb : Int) * n ≤ 281474976710656 ∧ n ≤ 9223372036854775807 ∧ 0 < esz ∧ id ∉ σ.ids then some (.ref id 0 n.toNat, [(id, some ⟨e, esz, List.replicate n.toNat (ez.map .v)⟩)]) else none
    | _ => none
  | _, _, _ => none
def slA (av : AV) (esz : Nat) (lo hi : Option Operand) : Option Res :=
  match av with
  | .sl s xs => match bndA σ xs.length lo hi with
    | some (l, h) => if s = esz then some (.sl esz ((xs.drop l).take (h - l)), []) else none
    | none => none
  | .ref k off n => match bndA σ n lo hi, lk σ.objs k with
    | some (l, h), some ob => if ob.sz = esz then some (.ref k (off + l) (h - l), []) else none
    | _, _ => none
  | _ => none
def cSlice (t : TypeId) (x : Operand) (lo hi : Option Operand) : Option Res :=
  match TT t, σ.ev x with
  | some ti, some av => match ti.kind with
    | .slice _ esz _ _ => slA σ av esz lo hi
    | _ => none
  | _, _ => none
def cFA (t : TypeId) (x : Operand) (i : Nat) : Option Res :=
  match TT t, σ.ev x with
  | some ti, some av =>
    match ti.kind with
    | .strct fs => match fs[i]? with
      | some (off, sz, _) => if sz = 0 then none else match av with
        | .ptr k e j => some (.ptr k e (j + off), [])
        | .pt cs => some (.pt (cs.drop off), [])
        | _ => none
      | none => none
    | _ => none
  | _, _ => none
def cF (t : TypeId) (x : Operand) (i : Nat) : Option Res :=
  match TT t, σ.ev x with
  | some ti, some (.agg cs) =>
    match ti.kind with
    | .strct fs => match fs[i]? with
      | some (off, sz, g) => if off + sz ≤ cs.length ∧ (g = true ∨ sz = 1) then some (if g then .agg ((cs.drop off).take sz) else cs.getD off .any, []) else none
      | none => none
    | _ => none
  | _, _ => none
def idxA (av : AV) (esz : Nat) (i : Value) : Option Res :=
  match av with
  | .sl s xs => if s = esz then (ixOk i xs.length).map fun m => (.pt (xs.getD m []), []) else none
  | .ref k off n => match lk σ.objs k with
    | some ob => if ob.sz = esz then (ixOk i n).map fun m => (.ptr k (off + m) 0, []) else none
    | none => none
  | _ => none
def cIA (t : TypeId) (x y : Operand) : Option Res :=
  match TT t, σ.ev x, σ.ev y with
  | some ti, some av, some (.v i) =>
    match ti.kind with
    | .slice _ esz _ _ => idxA σ av esz i
    | .arr len esz _ => match av with
      | .ptr k e j => (ixOk i len).map fun m => (.ptr k e (j + m * esz), [])
      | .pt cs => (ixOk i len).map fun m => (.pt (cs.drop (m * esz)), [])
      | _ => none
    | _ => none
  | _, _, _ => none
def cI (t : TypeId) (x y : Operand) : Option Res :=
  match TT t, σ.ev x, σ.ev y with
  | some ti, some (.agg cs), some (.v i) =>
    match ti.kind with
    | .arr len esz g => if g = false ∧ esz = 1 ∧ len ≤ cs.length then (ixOk i len).map fun m => (cs.getD m .any, []) else none
    | _ => none
  | _, _, _ => none
def cIS (t : TypeId) (s : ByteArray) (y : Operand) : Option Res :=
  match plainOf TT t, σ.ev y with
  | some .string, some (.v (.int _ z)) => if 0 ≤ z then match s[z.toNat]? with
      | some b => some (.v (.int .u8 b.toNat), [])
      | none => none
    else none
  | _, _ => none
def cIX (t : TypeId) (x y : Operand) : Option Res :=
  match σ.ev x with
  | some (.v (.string s)) => cIS TT σ t s y
  | _ => cI TT σ t x y
def cExt (x : Operand) (i : Nat) : Option Res :=
  match σ.ev x with
  | some (.tup cs) => (cs[i]?).map fun a => (a, [])
  | _ => none
def cLen (t : TypeId) (x : Operand) : Option Res :=
  match TT t, σ.ev x with
  | some ti, some av => match ti.kind with
    | .slice _ _ _ _ => (lenA av).map fun n : Nat => (.v (.int .i64 (n : Int)), [])
    | _ => none
  | _, _ => none
def cApp (t : TypeId) (s x : Operand) : Option Res :=
  match TT t, σ.ev s, σ.ev x with
  | some ti, some sv, some av =>
    match ti.kind with
    | .slice e esz eb _ =>
      match σ.rows esz av with
      | some ys =>
        match sv with
        | .ref k off n => match lk σ.objs k with
          | some ob => if ob.sz = esz ∧ ob.t = e ∧ off + n = ob.xs.length ∧ (n + ys.length) * eb ≤ 140737488355328 ∧ 0 < eb ∧ id ∉ σ.ids then
              some (.ref id 0 (n + ys.length), [(k, none), (id, some ⟨ob.t, ob.sz, ob.xs.drop off ++ ys⟩)]) else none
          | none => none
        | .v (.slice none 0 0) => if ys.length * eb ≤ 140737488355328 ∧ 0 < eb ∧ 0 < ys.length ∧ id ∉ σ.ids then some (.ref id 0 ys.length, [(id, some ⟨e, esz, ys⟩)]) else none
        | _ => none
      | none => none
    | _ => none
  | _, _, _ => none
def cMM (mx : Bool) (x y : Operand) : Option Res :=
  match σ.ev x, σ.ev y with
  | some (.v (.int k a)), some (.v (.int _ b)) => some (.v (.int k (if mx then (if b > a then b else a) else (if b < a then b else a))), [])
  | _, _ => none
def cFun (f : FuncId) (avs : List AV) : Option Res :=
  if idsL avs = [] then (PT f avs).map fun r => (r.1, [])
  else match σ.shutM (fun _ => true) avs with
    | some bvs => match PT f bvs with
      | some r => if r.2 = true ∨ r.1.scalar = true then some (r.1, []) else none
      | none => none
    | none => none
def cCall (c : Call) : Option Res :=
  match c.callee with
  | .builtin b =>
    match b, c.args.toList, c.argTypes.toList with
    | .len, [x], [t] => cLen TT σ t x
    | .append, [s, x], [t, u] => if t = u then cApp TT σ id t s x else none
    | .max, [x, y], _ => cMM σ true x y
    | .min, [x, y], _ => cMM σ false x y
    | _, _, _ => none
  | .value x => match σ.callee x, σ.evs c.args.toList with
    | some (f, cs), some avs => cFun PT σ f (avs ++ cs)
    | _, _ => none
  | _ => none
/-- One operation. -/
def core (o : Oper) : Option Res :=
  match o.op with
  | .move x => (σ.ev x).map fun a => (a, [])
  | .assign x => (σ.ev x).map fun a => (a, [])
  | .pick c x y => cPick σ c x y
  | .alloc t => cAlloc TT σ id t
  | .box t x => cBox TT σ id t x
  | .build t ps => cBuild TT σ t ps.toList
  | .buildSlice t n ps => cBuildS TT σ id t n ps.toList
  | .load t x => cLoad TT σ t x
  | .store t p x => cStore TT σ t p x
  | .nilCheck x => cNil σ x
  | .binOp op t x y _ => cBin TT σ op t x y
  | .unOp op _ x => cUn σ op x
  | .convert s t x => cConv TT σ s t x
  | .makeFunc (.func f) first cap => if first.size = 0 then (σ.evs cap.toList).map fun l => (.clo f l, []) else none
  | .makeSlice t x y => cMake TT σ id t x y
  | .slice t x lo hi none => cSlice TT σ t x lo hi
  | .fieldAddr t x i => cFA TT σ t x i
  | .field t x i => cF TT σ t x i
  | .indexAddr t x y => cIA TT σ t x y
  | .index t x y => cIX TT σ t x y
  | .extract x i => cExt σ x i
  | .call c => cCall TT PT σ id c
  | _ => none
end core

section ok
variable {P : Program} {TT : TTab} {PT : PTab} {σ : AS} {id : Nat} {o : Oper} {r : Res}

theorem toList_one {α : Type} {a : Array α} {x : α} (h : a.toList = [x]) : a = #[x] := Array.ext' h
theorem toList_two {α : Type} {a : Array α} {x y : α} (h : a.toList = [x, y]) : a = #[x, y] := Array.ext' h

theorem plainOf_ok (hTT : TTok P TT) {t : TypeId} {d : TypeDesc} (h : plainOf TT t = some d) : P.underlying t = some d := by
  unfold plainOf at h
  split at h
  · rename_i ti hti
    split at h
    · rename_i d' hk
      cases h
      obtain ⟨_, _, d2, _, _, h3, _, _, _, hkk⟩ := (hTT t ti hti).i
      rw [hk] at hkk
      rw [← hkk]; exact h3
    · cases h
  · cases h
theorem core_bin (hTT : TTok P TT) {op : BinOp} {t yt : TypeId} {x y : Operand} (ho : o.op = .binOp op t x y yt) (h : cBin TT σ op t x y = some r) : CoreOk P o σ r := by
  unfold cBin at h
  split at h
  · rename_i hn
    have := isNilS_eq hn
    subst this
    unfold cNilS at h
    split at h
    · rename_i ti av hti hx
      split at h
      · rename_i e esz eb ez b hk hb
        split at h
        · cases h; exact ok_nilS (neg := false) (hTT _ _ hti) hk ho hx hb
        · cases h; exact ok_nilS (neg := true) (hTT _ _ hti) hk ho hx hb
        · cases h
      · cases h
    · cases h
  rename_i hno
  clear hno
  split at h
  · rename_i u v hx hy
    split at h
    · rename_i r' hr
      cases h
      exact ok_bin ho hx hy (fun e he => plainOf_ok hTT he) hr
    · split at h
      · cases h
        exact ok_nilnil (neg := false) (plainOf_ok hTT (by assumption)) ho hx
      · cases h
        exact ok_nilnil (neg := true) (plainOf_ok hTT (by assumption)) ho hx
      · cases h
  · rename_i cs ds hx hy
    split at h
    · rename_i ti hti
      split at h
      · rename_i len esz g b hk he
        split at h
        · rename_i hl
          split at h
          · simp only [Option.map_eq_some_iff] at h
            obtain ⟨r', h1, rfl⟩ := h
            exact ok_eq_arr (neg := false) (hTT _ _ hti) hk he ho hx hy hl h1
          · simp only [Option.map_eq_some_iff] at h
            obtain ⟨r', h1, rfl⟩ := h
            exact ok_eq_arr (neg := true) (hTT _ _ hti) hk he ho hx hy hl h1
          · cases h
        · cases h
      · cases h
    · cases h
  · rename_i k e j hx
    split at h
    · rename_i hpl
      cases h
      exact ok_ptrnil (neg := false) (.inl ⟨_, _, _, rfl⟩) (plainOf_ok hTT hpl) ho hx
    · rename_i hpl
      cases h
      exact ok_ptrnil (neg := true) (.inl ⟨_, _, _, rfl⟩) (plainOf_ok hTT hpl) ho hx
    · cases h
  · cases h
theorem evs_get : ∀ {xs : List Operand} {l : List AV}, σ.evs xs = some l → l.length = xs.length ∧ ∀ (i : Nat) (av : AV), l[i]? = some av → ∃ x, xs[i]? = some x ∧ σ.ev x = some av
  | [], l, h => by simp only [AS.evs, Option.some.injEq] at h; subst h; exact ⟨rfl, fun i av hi => by simp at hi⟩
  | x :: xs, l, h => by
    simp only [AS.evs] at h
    split at h
    · rename_i a l' hx hl
      cases h
      obtain ⟨h1, h2⟩ := evs_get hl
      refine ⟨by simp [h1], fun i av hi => ?_⟩
      cases i with
      | zero => simp at hi; subst hi; exact ⟨x, by simp, hx⟩
      | succ i => simpa using h2 i av (by simpa using hi)
    · cases h
theorem core_call (hTT : TTok P TT) (hPT : PTok P PT) {c : Call} (ho : o.op = .call c) (h : cCall TT PT σ id c = some r) : CoreOk P o σ r := by
  obtain ⟨callee, args, ts⟩ := c
  unfold cCall at h
  simp only at h
  split at h
  · rename_i b
    split at h
    · rename_i x t hargs hts
      rw [toList_one hargs, toList_one hts] at ho
      unfold cLen at h
      split at h
      · rename_i ti av hti hx
        split at h
        · rename_i e esz eb ez hk
          simp only [Option.map_eq_some_iff] at h
          obtain ⟨n, hn, rfl⟩ := h
          exact ok_len (hTT _ _ hti) hk ho hx hn
        · cases h
      · cases h
    · rename_i s x t u hargs hts
      split at h
      · rename_i htu
        subst htu
        rw [toList_two hargs, toList_two hts] at ho
        unfold cApp at h
        split at h
        · rename_i ti sv av hti hs hx
          split at h
          · rename_i e esz eb ez hk
            split at h
            · rename_i ys hys
              split at h
              · rename_i k off n
                split at h
                · rename_i ob hob
                  split at h
                  · rename_i hc
                    obtain ⟨rfl, rfl, h3, h4, h5, h6⟩ := hc
                    cases h
                    exact ok_append (hTT _ _ hti) hk ho hs hob rfl h3 hx hys h4 h5 h6
                  · cases h
                · cases h
              · split at h
                · rename_i hc
                  obtain ⟨h3, h4, h5, h6⟩ := hc
                  cases h
                  exact ok_append_nil (hTT _ _ hti) hk ho hs hx hys h3 h4 h5 h6
                · cases h
              · cases h
            · cases h
          · cases h
        · cases h
      · cases h
    · rename_i x y _ hargs
      rw [toList_two hargs] at ho
      unfold cMM at h
      split at h
      · rename_i k a k' b hx hy
        cases h
        exact ok_minmax (mx := true) ho hx hy
      · cases h
    · rename_i x y _ hargs
      rw [toList_two hargs] at ho
      unfold cMM at h
      split at h
      · rename_i k a k' b hx hy
        cases h
        exact ok_minmax (mx := false) ho hx hy
      · cases h
    · cases h
  · rename_i x
    split at h
    · rename_i f cs avs hx havs
      unfold cFun at h
      split at h
      · rename_i hp
        simp only [Option.map_eq_some_iff] at h
        obtain ⟨⟨r', fr⟩, h1, rfl⟩ := h
        obtain ⟨h2, h3, _⟩ := hPT _ _ _ _ h1
        exact ok_call (enters_ok ho h2 hx havs) hp h3
      · split at h
        · rename_i bvs hb
          split at h
          · rename_i r' h1
            obtain ⟨r', fr⟩ := r'
            split at h
            · rename_i hs
              cases h
              obtain ⟨h2, h3, h4⟩ := hPT _ _ _ _ h1
              rcases hs with hs | hs
              · exact ok_call_fresh (enters_ok ho h2 hx havs) hb (h4 hs)
              · exact ok_call_borrow (enters_ok ho h2 hx havs) hb h3 hs
            · cases h
          · cases h
        · cases h
    · cases h
  · cases h

/-- ONE OPERATION, COMPUTED, IS WHAT THE OPERATION DOES. -/
theorem core_ok (hTT : TTok P TT) (hPT : PTok P PT) (h : core TT PT σ id o = some r) : CoreOk P o σ r := by
  unfold core at h
  split at h
  · rename_i x ho
    simp only [Option.map_eq_some_iff] at h
    obtain ⟨av, h1, rfl⟩ := h
    exact ok_move (.inl ho) h1
  · rename_i x ho
    simp only [Option.map_eq_some_iff] at h
    obtain ⟨av, h1, rfl⟩ := h
    exact ok_move (.inr ho) h1
  · rename_i c x y ho
    unfold cPick at h
    split at h
    · rename_i t hc
      simp only [Option.map_eq_some_iff] at h
      obtain ⟨av, h1, rfl⟩ := h
      exact ok_pick ho hc h1
    · cases h
  · rename_i t ho
    unfold cAlloc at h
    split at h
    · rename_i ti hti
      split at h
      · cases h
      · rename_i hid; cases h; exact ok_alloc (hTT _ _ hti) ho hid
    · cases h
  · rename_i t x ho
    unfold cBox at h
    split at h
    · rename_i ti av hti hx
      split at h
      · rename_i hc; obtain ⟨h1, h2, h3⟩ := hc; cases h; exact ok_box (hTT _ _ hti) ho hx h1 h2 h3
      · cases h
    · cases h
  · rename_i t ps ho
    unfold cBuild at h
    split at h
    · rename_i ti l hti hp
      split at h
      · rename_i fs hk
        simp only [Option.map_eq_some_iff] at h
        obtain ⟨out, h1, rfl⟩ := h
        exact ok_build_st (hTT _ _ hti) hk ho hp h1
      · rename_i esz g hk
        simp only [Option.map_eq_some_iff] at h
        obtain ⟨out, h1, rfl⟩ := h
        exact ok_build_arr (hTT _ _ hti) hk ho hp h1
      · cases h
    · cases h
  · rename_i t n ps ho
    unfold cBuildS at h
    split at h
    · rename_i ti l hti hp
      split at h
      · rename_i e esz eb ez hk
        split at h
        · rename_i out hf
          split at h
          · rename_i hc; obtain ⟨h1, h2, h3⟩ := hc; cases h; exact ok_buildSlice (hTT _ _ hti) hk ho hp hf h1 h2 h3
          · cases h
        · cases h
      · cases h
    · cases h
  · rename_i t x ho
    unfold cLoad at h
    split at h
    · rename_i ti k e j hti hx
      split at h
      · rename_i ob hob
        split at h
        · rename_i hc; cases h; exact ok_load_ptr (hTT _ _ hti) ho hx hob hc.1 hc.2
        · cases h
      · cases h
    · rename_i ti cs hti hx
      split at h
      · rename_i hc; cases h; exact ok_load_pt (hTT _ _ hti) ho hx hc
      · cases h
    · cases h
  · rename_i t p x ho
    unfold cStore at h
    split at h
    · rename_i ti k e j av hti hp hx
      split at h
      · rename_i ob hob
        split at h
        · rename_i hc; obtain ⟨h1, h2, h3, h4⟩ := hc; cases h; exact ok_store (hTT _ _ hti) ho hp hob h1 hx h3 h4 h2
        · cases h
      · cases h
    · cases h
  · rename_i x ho
    unfold cNil at h
    split at h
    · rename_i k e j hx; cases h; exact ok_nilck ho hx (.inl ⟨_, _, _, rfl⟩)
    · rename_i cs hx; cases h; exact ok_nilck ho hx (.inr ⟨_, rfl⟩)
    · cases h
  · rename_i op t x y yt ho
    exact core_bin hTT ho h
  · rename_i op t x ho
    unfold cUn at h
    split at h
    · rename_i u hx
      simp only [Option.map_eq_some_iff] at h
      obtain ⟨r', h1, rfl⟩ := h
      exact ok_un ho hx h1
    · cases h
  · rename_i s t x ho
    unfold cConv at h
    split at h
    · rename_i k0 n tis k hx hs ht
      cases h
      obtain ⟨_, _, d, _, _, h3, _⟩ := (hTT _ _ hs).i
      exact ok_conv ho hx h3 (plainOf_ok hTT ht)
    · cases h
  · rename_i f first cap ho
    split at h
    · rename_i hf
      have hf' : first = #[] := Array.eq_empty_of_size_eq_zero hf
      subst hf'
      simp only [Option.map_eq_some_iff] at h
      obtain ⟨l, h1, rfl⟩ := h
      obtain ⟨h2, h3⟩ := evs_get h1
      exact ok_func ho (by simpa using h2) (fun i av hi => by obtain ⟨x, h4, h5⟩ := h3 i av hi; exact ⟨x, by simpa using h4, h5⟩)
    · cases h
  · rename_i t x y ho
    unfold cMake at h
    split at h
    · rename_i ti k n k' m hti hx hy
      split at h
      · rename_i e esz eb ez hk
        split at h
        · rename_i hc
          obtain ⟨rfl, h1, h2, h3, h4, h5⟩ := hc
          cases h
          exact ok_make (hTT _ _ hti) hk ho hx hy h1 h2 h3 h4 h5
        · cases h
      · cases h
    · cases h
  · rename_i t x lo hi ho
    unfold cSlice at h
    split at h
    · rename_i ti av hti hx
      split at h
      · rename_i e esz eb ez hk
        unfold slA at h
        split at h
        · rename_i s xs
          split at h
          · rename_i l hh hb
            split at h
            · rename_i hs; subst hs; cases h; exact ok_slice_sl (hTT _ _ hti) hk ho hx hb
            · cases h
          · cases h
        · rename_i k off n
          split at h
          · rename_i l hh ob hb hob
            split at h
            · rename_i hs; cases h; exact ok_slice_ref (hTT _ _ hti) hk ho hx hob hs hb
            · cases h
          · cases h
        · cases h
      · cases h
    · cases h
  · rename_i t x i ho
    unfold cFA at h
    split at h
    · rename_i ti av hti hx
      split at h
      · rename_i fs hk
        split at h
        · rename_i off sz g hf
          split at h
          · cases h
          · rename_i h0
            split at h
            · cases h; exact ok_faddr_ptr (hTT _ _ hti) hk hf h0 ho hx
            · cases h; exact ok_faddr_pt (hTT _ _ hti) hk hf h0 ho hx
            · cases h
        · cases h
      · cases h
    · cases h
  · rename_i t x i ho
    unfold cF at h
    split at h
    · rename_i ti cs hti hx
      split at h
      · rename_i fs hk
        split at h
        · rename_i off sz g hf
          split at h
          · rename_i hc
            cases h
            exact ok_fieldv (hTT _ _ hti) hk hf ho hx hc.1 (fun hg => hc.2.resolve_left (by rw [hg]; simp))
          · cases h
        · cases h
      · cases h
    · cases h
  · rename_i t x y ho
    unfold cIA at h
    split at h
    · rename_i ti av i hti hx hy
      split at h
      · rename_i e esz eb ez hk
        unfold idxA at h
        split at h
        · rename_i s xs
          split at h
          · rename_i hs
            subst hs
            simp only [Option.map_eq_some_iff] at h
            obtain ⟨m, hm, rfl⟩ := h
            exact ok_iaddr_sl (hTT _ _ hti) hk ho hx hy hm
          · cases h
        · rename_i k off n
          split at h
          · rename_i ob hob
            split at h
            · rename_i hs
              simp only [Option.map_eq_some_iff] at h
              obtain ⟨m, hm, rfl⟩ := h
              exact ok_iaddr_ref (hTT _ _ hti) hk ho hx hob hs hy hm
            · cases h
          · cases h
        · cases h
      · rename_i len esz g hk
        split at h
        · simp only [Option.map_eq_some_iff] at h
          obtain ⟨m, hm, rfl⟩ := h
          exact ok_iaddr_arr (hTT _ _ hti) hk ho hx hy hm
        · simp only [Option.map_eq_some_iff] at h
          obtain ⟨m, hm, rfl⟩ := h
          exact ok_iaddr_arr_pt (hTT _ _ hti) hk ho hx hy hm
        · cases h
      · cases h
    · cases h
  · rename_i t x y ho
    unfold cIX at h
    split at h
    · rename_i s hx
      unfold cIS at h
      split at h
      · rename_i k z hu hy
        split at h
        · rename_i h0
          split at h
          · rename_i b hb
            cases h
            exact ok_idxStr (plainOf_ok hTT hu) ho hx hy h0 hb
          · cases h
        · cases h
      · cases h
    unfold cI at h
    split at h
    · rename_i ti cs i hti hx hy
      split at h
      · rename_i len esz g hk
        split at h
        · rename_i hc
          simp only [Option.map_eq_some_iff] at h
          obtain ⟨m, hm, rfl⟩ := h
          exact ok_index (hTT _ _ hti) hk ⟨hc.1, hc.2.1⟩ ho hx hc.2.2 hy hm
        · cases h
      · cases h
    · cases h
  · rename_i x i ho
    unfold cExt at h
    split at h
    · rename_i cs hx
      simp only [Option.map_eq_some_iff] at h
      obtain ⟨av, h1, rfl⟩ := h
      exact ok_extract ho hx h1
    · cases h
  · rename_i c ho
    exact core_call hTT hPT ho h
  · cases h
end ok
end Go.Proofs.Ytkollnaojpppcaa
