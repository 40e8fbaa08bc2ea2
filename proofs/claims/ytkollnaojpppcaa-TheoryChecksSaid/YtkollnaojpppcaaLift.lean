/- From a function that only computes to a law's statement: arguments that read as data stand for abstract values; plain lemmas over any program; no condition. -/
import Derived.Test.YtkollnaojpppcaaAm17
import Derived.ProofKit
import Derived.OpenShut
import Derived.Deep.Slices
import Derived.Below
import Derived.ChangeSame
import Derived.WideKeyArgs
namespace Go.Proofs.Ytkollnaojpppcaa
open Go.RowKit Go.WideShapes Go.ChangeShapes Go.ChangeAt

section
variable {H : Type} {enc : TypeId × Value → H} {P : Program}
theorem post_of_below {f : Func} {s : ChangeSpec} {apart fresh handsOn again : Bool} {W W' : World} {args : Array Value} {v : Value} {ds gs : List (DataW H)} {before pa pv : List MemPlace}
    (hW : DataW.Whole enc P f.params.toList s.vars apart W args.toList ds gs before)
    (hres : ∀ (b : Nat) (sp : Nat → Bool) (hd : Bool), DataW.TrodAll enc P W' b sp hd f.resultTypes.toList (v.resultList f.resultTypes.size) (s.fn H (ds ++ gs)).results [])
    (hargs : ∀ sp : Nat → Bool, (∀ p ∈ before, sp p.block = true) → DataW.TrodAll enc P W' 0 sp true f.params.toList args.toList (s.fn H (ds ++ gs)).args pa)
    (hvars : ∀ sp : Nat → Bool, (∀ p ∈ before, sp p.block = true) → DataW.TrodVars enc P W' sp s.vars (s.fn H (ds ++ gs)).vars pv)
    (hps : before = pa ++ pv) (hb : Below W.heap.size W W')
    (hok : ∀ (j : Nat) (t : TypeId) (r : Value), f.resultTypes[j]? = some t → (v.resultList f.resultTypes.size)[j]? = some r → Value.okWide P W' .any 0 t r) :
    s.post enc P f apart fresh handsOn again W args v W' := by
  have hlt : ∀ p ∈ before, p.block < W.heap.size := fun p hp => hW.lt p hp
  have hold : ∀ p ∈ before, (fun b => decide (b < W.heap.size)) p.block = true := fun p hp => by simpa using hlt p hp
  refine ⟨ds, gs, before, [], pa, pv, hW, hres _ _ _, hargs _ hold, hvars _ hold, World.keptBut_mono (fun p hp => ⟨hp, ?_⟩) (hb.frame (· ∈ before)), fun _ => ?_⟩
  · rw [hps, List.mem_append] at hp
    exact Or.inr hp
  · obtain ⟨_, _, _, _, _, hz, hn⟩ := hW
    refine ⟨hok, _, _, ([] ++ pa) ++ pv, ⟨[] ++ pa, pv, trodAll_append (hargs _ (fun _ _ => rfl)) (hres _ _ _), hvars _ (fun _ _ => rfl), rfl, ?_, ?_⟩, ?_⟩
    · intro b off hp
      have hin : MemPlace.cell b off ∈ before := by rw [hps]; simpa using hp
      rw [hb.frozen (hlt _ hin)]
      exact hz b off hin
    · intro ha
      have := hn ha
      rw [hps] at this
      simpa using this
    · intro p hp _
      rw [hps]
      simpa using hp
end

/-- All that is in memory. -/
def allS (W : World) : Nat → Nat → Option Value := fun b o => W.cell? ⟨b, o, none⟩
theorem allS_ok (W : World) : StOk (allS W) W := fun _ _ _ h => h
/-- These cells stand for this row. -/
def RowR (W : World) (row : List AV) (cs : List Value) : Prop := row.length = cs.length ∧ ∀ j, j < cs.length → (cs.getD j undef).oneCell' = true ∧ Rv (G0 (allS W)) (row.getD j .any) (cs.getD j undef)
theorem RowR.one {W : World} {a : AV} {v : Value} (h1 : v.oneCell' = true) (h : Rv (G0 (allS W)) a v) : RowR W [a] [v] :=
  ⟨rfl, fun j hj => by simp at hj; subst hj; exact ⟨h1, h⟩⟩
theorem RowR.cat {W : World} {r s : List AV} {cs ds : List Value} (h : RowR W r cs) (k : RowR W s ds) : RowR W (r ++ s) (cs ++ ds) := by
  refine ⟨by simp [h.1, k.1], fun j hj => ?_⟩
  rw [List.length_append] at hj
  have h1 := h.1
  by_cases hlt : j < cs.length
  · have := h.2 j hlt
    simpa [List.getD, List.getElem?_append, hlt, show j < r.length by omega] using this
  · have := k.2 (j - cs.length) (by omega)
    simpa [List.getD, List.getElem?_append, hlt, show ¬ j < r.length by omega, h1] using this

section
variable {H : Type} {enc : TypeId × Value → H} {P : Program} {W : World}
/-- What the cells of a type read as. -/
def Opens (enc : TypeId × Value → H) (P : Program) (W : World) (t : TypeId) (Q : List AV → Prop) : Prop :=
  ∀ base sp held fuel cs x, DataW.trod enc P W base sp held fuel t cs = some x → ∃ row, RowR W row cs ∧ Q row
theorem Opens.mono {t : TypeId} {Q Q' : List AV → Prop} (h : Opens enc P W t Q) (hq : ∀ r, Q r → Q' r) : Opens enc P W t Q' := fun b sp hd f cs x hx => by
  obtain ⟨r, h1, h2⟩ := h b sp hd f cs x hx
  exact ⟨r, h1, hq r h2⟩
theorem opens_int {t : TypeId} {k : IntKind} (ht : P.underlying t = some (.int k)) : Opens enc P W t (fun r => ∃ x, r = [.v (.int k x)] ∧ (Lit.int k x).wf = true) := fun b sp hd f cs x hx => by
  obtain ⟨n, rfl, _, hw⟩ := DataW.trod_int ht hx
  exact ⟨_, .one rfl (.v _), n, rfl, hw⟩
theorem opens_slice {t e : TypeId} {sz : Nat} {Q : List AV → Prop} (ht : P.underlying t = some (.slice e)) (hsz : P.cellsOf e = sz) (h0 : 0 < sz) (he : Opens enc P W e Q) :
    Opens enc P W t (fun r => ∃ xs, r = [.sl sz xs] ∧ xs.length ≤ AMax ∧ ∀ q ∈ xs, Q q) := fun b sp hd f cs x hx => by
  rcases Go.Deep.open_slice ht hx with ⟨rfl, _⟩ | ⟨a, len, cap, m, n, D, Pl, rfl, hb, hl, hm, hmm, _, hel⟩
  · exact ⟨_, .one rfl (rv_nil0 sz), [], rfl, Nat.zero_le _, fun q hq => by cases hq⟩
  · have hlm : len ≤ m := by rw [hmm]; split <;> omega
    have hmx : len ≤ AMax := by have : maxLen = AMax := rfl; omega
    by_cases hz : len = 0
    · subst hz
      exact ⟨_, .one rfl (.sl sz [] (some a) 0 cap (fun _ _ => undef) rfl hl (Nat.zero_le _) (fun h => by cases h) (fun i hi => by simp at hi) (fun hp => by simp at hp) (fun i j hi => by simp at hi) (fun i j hi => by simp at hi)), [], rfl, Nat.zero_le _, fun q hq => by cases hq⟩
    · obtain ⟨bb, o, rfl⟩ : ∃ bb o, a = ⟨bb, o, none⟩ := by
        obtain ⟨cs', h1, _⟩ := hel 0 (by omega)
        obtain ⟨_, h5, h6⟩ := World.cells?_some h1
        rw [hsz] at h5 h6
        have h7 := h6 0 h0
        rw [List.getElem?_eq_getElem (by omega)] at h7
        have := World.cell?_spot h7
        obtain ⟨b', o', s'⟩ := a
        have hs : s' = none := by simpa [Addr.add] using this
        exact ⟨b', o', by rw [hs]⟩
      have key : ∀ i, i < len → ∃ row : List AV, Q row ∧ row.length = sz ∧ ∃ cs' : List Value, cs'.length = sz ∧ RowR W row cs' ∧ ∀ j, j < sz → W.cell? ⟨bb, o + i * sz + j, none⟩ = some (cs'.getD j undef) := fun i hi => by
        obtain ⟨cs', h1, h2⟩ := hel i (by omega)
        obtain ⟨row, h3, h4⟩ := he _ _ _ _ _ _ h2
        obtain ⟨_, h5, h6⟩ := World.cells?_some h1
        rw [hsz] at h5 h6
        refine ⟨row, h4, by rw [h3.1, h5], cs', h5, h3, fun j hj => ?_⟩
        have := h6 j hj
        rw [Go.WideShapes.add_plain, Go.WideShapes.add_plain] at this
        rw [this]
        simp [List.getD, show j < cs'.length by omega]
      obtain ⟨R, hR⟩ := Go.Deep.choose_lt (p := fun i (row : List AV) => Q row ∧ row.length = sz ∧ ∃ cs' : List Value, cs'.length = sz ∧ RowR W row cs' ∧ ∀ j, j < sz → W.cell? ⟨bb, o + i * sz + j, none⟩ = some (cs'.getD j undef)) key
      obtain ⟨C, hC⟩ := Go.Deep.choose_lt (p := fun i (cs' : List Value) => cs'.length = sz ∧ RowR W (R i) cs' ∧ ∀ j, j < sz → W.cell? ⟨bb, o + i * sz + j, none⟩ = some (cs'.getD j undef)) (fun i hi => (hR i hi).2.2)
      have hget : ∀ i, i < len → ((List.range len).map R).getD i [] = R i := fun i hi => by simp [List.getD, hi]
      refine ⟨_, .one rfl (.sl sz ((List.range len).map R) (some ⟨bb, o, none⟩) len cap (fun i j => (C i).getD j undef) (by simp) hl hmx (fun h => by cases h) (fun i hi => ?_) (fun hp => ?_) (fun i j hi hj => ?_) (fun i j hi hj => ?_)), _, rfl, by
        simpa using hmx, fun q hq => ?_⟩
      · simp only [List.length_map, List.length_range] at hi
        rw [hget i hi]; exact (hR i hi).2.1
      · refine ⟨bb, o, rfl, fun i j hi hj => ?_⟩
        simp only [List.length_map, List.length_range] at hi
        exact (hC i hi).2.2 j hj
      · simp only [List.length_map, List.length_range] at hi
        have h1 := (hC i hi).2.1
        exact (h1.2 j (by rw [(hC i hi).1]; exact hj)).1
      · simp only [List.length_map, List.length_range] at hi
        have h1 := (hC i hi).2.1
        rw [hget i hi]
        exact (h1.2 j (by rw [(hC i hi).1]; exact hj)).2
      · obtain ⟨i, hi, rfl⟩ := List.mem_map.1 hq
        exact (hR i (by simpa using hi)).1
/-- Structs and arrays: field by field. -/
theorem opens_st2 {t t0 t1 : TypeId} {c0 c1 : Nat} {f0 f1 : Field} {Q0 Q1 : List AV → Prop} (ht : P.underlying t = some (.struct #[f0, f1])) (e0 : f0.type = t0) (e1 : f1.type = t1) (o0 : f0.offset = 0) (o1 : f1.offset = c0)
    (k0 : P.cellsOf t0 = c0) (k1 : P.cellsOf t1 = c1) (kt : P.cellsOf t = c0 + c1) (h0 : Opens enc P W t0 Q0) (h1 : Opens enc P W t1 Q1) : Opens enc P W t (fun r => ∃ r0 r1, r = r0 ++ r1 ∧ Q0 r0 ∧ Q1 r1) := fun b sp hd f cs x hx => by
  obtain ⟨xs, n, _, _, hl, hn, hf⟩ := DataW.trod_struct ht hx
  have g0 := hf 0 f0 rfl
  have g1 := hf 1 f1 rfl
  simp only [List.size_toArray, List.length_cons, List.length_nil] at hn
  rw [e0, o0, k0, List.drop_zero, List.getElem?_eq_getElem (by omega)] at g0
  rw [e1, o1, k1, List.getElem?_eq_getElem (by omega)] at g1
  obtain ⟨r0, p0, q0⟩ := h0 _ _ _ _ _ _ g0
  obtain ⟨r1, p1, q1⟩ := h1 _ _ _ _ _ _ g1
  refine ⟨r0 ++ r1, ?_, r0, r1, rfl, q0, q1⟩
  have := p0.cat p1
  rw [List.take_of_length_le (l := cs.drop c0) (by simp; omega), List.take_append_drop] at this
  exact this
theorem opens_st3 {t t0 t1 t2 : TypeId} {c0 c1 c2 : Nat} {f0 f1 f2 : Field} {Q0 Q1 Q2 : List AV → Prop} (ht : P.underlying t = some (.struct #[f0, f1, f2])) (e0 : f0.type = t0) (e1 : f1.type = t1) (e2 : f2.type = t2) (o0 : f0.offset = 0) (o1 : f1.offset = c0) (o2 : f2.offset = c0 + c1)
    (k0 : P.cellsOf t0 = c0) (k1 : P.cellsOf t1 = c1) (k2 : P.cellsOf t2 = c2) (kt : P.cellsOf t = c0 + c1 + c2) (h0 : Opens enc P W t0 Q0) (h1 : Opens enc P W t1 Q1) (h2 : Opens enc P W t2 Q2) : Opens enc P W t (fun r => ∃ r0 r1 r2, r = r0 ++ (r1 ++ r2) ∧ Q0 r0 ∧ Q1 r1 ∧ Q2 r2) := fun b sp hd f cs x hx => by
  obtain ⟨xs, n, _, _, hl, hn, hf⟩ := DataW.trod_struct ht hx
  have g0 := hf 0 f0 rfl
  have g1 := hf 1 f1 rfl
  have g2 := hf 2 f2 rfl
  simp only [List.size_toArray, List.length_cons, List.length_nil] at hn
  rw [e0, o0, k0, List.drop_zero, List.getElem?_eq_getElem (by omega)] at g0
  rw [e1, o1, k1, List.getElem?_eq_getElem (by omega)] at g1
  rw [e2, o2, k2, List.getElem?_eq_getElem (by omega)] at g2
  obtain ⟨r0, p0, q0⟩ := h0 _ _ _ _ _ _ g0
  obtain ⟨r1, p1, q1⟩ := h1 _ _ _ _ _ _ g1
  obtain ⟨r2, p2, q2⟩ := h2 _ _ _ _ _ _ g2
  refine ⟨r0 ++ (r1 ++ r2), ?_, r0, r1, r2, rfl, q0, q1, q2⟩
  have := p0.cat (p1.cat p2)
  rw [List.take_of_length_le (l := cs.drop (c0 + c1)) (by simp; omega), ← List.drop_drop, List.take_append_drop, List.take_append_drop] at this
  exact this
theorem opens_arr2 {t e : TypeId} {c : Nat} {Q : List AV → Prop} (ht : P.underlying t = some (.array 2 e)) (k : P.cellsOf e = c) (kt : P.cellsOf t = c + c) (h : Opens enc P W e Q) : Opens enc P W t (fun r => ∃ r0 r1, r = r0 ++ r1 ∧ Q r0 ∧ Q r1) := fun b sp hd f cs x hx => by
  obtain ⟨xs, n, _, _, hl, hn, hf⟩ := DataW.trod_array ht hx
  have g0 := hf 0 (by omega)
  have g1 := hf 1 (by omega)
  rw [k, Nat.zero_mul, List.drop_zero, List.getElem?_eq_getElem (by omega)] at g0
  rw [k, Nat.one_mul, List.getElem?_eq_getElem (by omega)] at g1
  obtain ⟨r0, p0, q0⟩ := h _ _ _ _ _ _ g0
  obtain ⟨r1, p1, q1⟩ := h _ _ _ _ _ _ g1
  refine ⟨r0 ++ r1, ?_, r0, r1, rfl, q0, q1⟩
  have := p0.cat p1
  rw [List.take_of_length_le (l := cs.drop c) (by simp; omega), List.take_append_drop] at this
  exact this

/-- An argument. -/
theorem arg_agg {base : Nat} {sp : Nat → Bool} {held : Bool} {t : TypeId} {v : Value} {d : DataW H} {p : List MemPlace} {Q : List AV → Prop} (ht : (∃ fs, P.underlying t = some (.struct fs)) ∨ ∃ n e, P.underlying t = some (.array n e))
    (hval : Value.okWide P W .any base t v) (h : DataW.Trod enc P W 0 sp held t v d p) (ho : Opens enc P W t Q) : ∃ row, Rv (G0 (allS W)) (.agg row) v ∧ Q row := by
  obtain ⟨arr, rfl, _⟩ : ∃ cs, v = .agg cs ∧ cs.size = P.cellsOf t := by
    rcases ht with ⟨fs, ht⟩ | ⟨n, e, ht⟩ <;> (simp only [Value.okWide, ht] at hval; obtain ⟨cs, h1, h2, _⟩ := hval; exact ⟨cs, h1, h2⟩)
  obtain ⟨fuel, h⟩ := h
  obtain ⟨row, h1, h2⟩ := ho _ _ _ _ _ _ h
  obtain ⟨h3, h4⟩ := h1
  simp only [Value.cells] at h3 h4
  refine ⟨row, Rv.agg' (by simpa using h3.symm) (fun x hx => ?_) (fun i hi => ?_), h2⟩
  · obtain ⟨i, hi, rfl⟩ := Array.getElem_of_mem hx
    have := (h4 i (by simpa using hi)).1
    simpa [List.getD, hi] using this
  · have := (h4 i (by omega)).2
    simpa [List.getD, Array.getD_eq_getD_getElem?] using this
theorem arg_one {sp : Nat → Bool} {held : Bool} {t : TypeId} {v : Value} {d : DataW H} {p : List MemPlace} {Q : List AV → Prop} (hv : v.cells.toList = [v])
    (h : DataW.Trod enc P W 0 sp held t v d p) (ho : Opens enc P W t Q) : ∃ a, Rv (G0 (allS W)) a v ∧ Q [a] := by
  obtain ⟨fuel, h⟩ := h
  rw [hv] at h
  obtain ⟨row, h1, h2⟩ := ho _ _ _ _ _ _ h
  obtain ⟨h3, h4⟩ := h1
  match row, h3 with
  | [a], _ => exact ⟨a, by simpa using (h4 0 (by simp)).2, h2⟩
theorem cells_int {base : Nat} {t : TypeId} {v : Value} {k : IntKind} (ht : P.underlying t = some (.int k)) (hval : Value.okWide P W .any base t v) : v.cells.toList = [v] := by
  obtain ⟨n, rfl⟩ := okWide_int ht hval
  rfl
theorem cells_slice {base : Nat} {t e : TypeId} {v : Value} (ht : P.underlying t = some (.slice e)) (hval : Value.okWide P W .any base t v) : v.cells.toList = [v] := by
  obtain ⟨a, l, c, rfl⟩ := okWide_slice ht hval
  rfl

theorem trodAll_stays (hl : laidOutB P = true) {W' : World} {sp : Nat → Bool} : ∀ {ts : List TypeId} {vs : List Value} {ds : List (DataW H)} {ps : List MemPlace}, (∀ t ∈ ts, P.readableRec t = true ∧ t < P.types.size) → DataW.TrodAll enc P W 0 (fun _ => true) true ts vs ds ps → (∀ p ∈ ps, W.sameAt W' p) → (∀ p ∈ ps, sp p.block = true) → DataW.TrodAll enc P W' 0 sp true ts vs ds ps
  | [], [], [], _, _, h, _, _ => h
  | t :: ts, v :: vs, d :: ds, ps, ht, h, hs, hp => by
    obtain ⟨p, q, h1, h2, rfl⟩ := h
    refine ⟨p, q, WideElems.Trod_stays hl (ht t (by simp)).1 (ht t (by simp)).2 h1 (fun x hx => hs x (List.mem_append_left _ hx)) (fun x hx => hp x (List.mem_append_left _ hx)), trodAll_stays hl (fun t' h' => ht t' (List.mem_cons_of_mem _ h')) h2 (fun x hx => hs x (List.mem_append_right _ hx)) (fun x hx => hp x (List.mem_append_right _ hx)), rfl⟩
  | [], [], _ :: _, _, _, h, _, _ => by simp [DataW.TrodAll] at h
  | [], _ :: _, _, _, _, h, _, _ => by simp [DataW.TrodAll] at h
  | _ :: _, [], _, _, _, h, _, _ => by simp [DataW.TrodAll] at h
  | _ :: _, _ :: _, [], _, _, h, _, _ => by simp [DataW.TrodAll] at h

/-- The types of parameters are readable. -/
def recB (P : Program) (ts : List TypeId) : Bool := ts.all fun t => P.readableRec t && decide (t < P.types.size)
theorem rec_ok {ts : List TypeId} (h : recB P ts = true) : ∀ t ∈ ts, P.readableRec t = true ∧ t < P.types.size := fun t ht => by
  have := List.all_eq_true.1 h t ht
  simpa using this

/-- THE STEP TO THE STATEMENT. -/
theorem law_of_pure (hl : laidOutB P = true) {f : FuncId} {fn : Func} {s : ChangeSpec} {apart fresh handsOn again : Bool} {args : Array Value} {ds gs : List (DataW H)} {before : List MemPlace} {tb : TypeId}
    (hW : DataW.Whole enc P fn.params.toList s.vars apart W args.toList ds gs before) (hv : s.vars = []) (hrec : ∀ t ∈ fn.params.toList, P.readableRec t = true ∧ t < P.types.size) (hrt : fn.resultTypes = #[tb]) (htb : P.underlying tb = some .bool)
    (h1 : (s.fn H (ds ++ gs)).results = [.lit (.bool true)]) (h2 : (s.fn H (ds ++ gs)).args = ds) (h3 : (s.fn H (ds ++ gs)).vars = [])
    {avs : List AV} (hn : args.size = avs.length) (hrv : ∀ i, i < avs.length → Rv (G0 (allS W)) (avs.getD i .any) (args.getD i undef)) (hF : FnPure P f avs (.v (.bool true))) :
    Calls P f args W fun e W' => ∃ v, e = .returned v ∧ s.post enc P fn apart fresh handsOn again W args v W' := by
  refine (hF (allS W) W args (allS_ok W) hn hrv).mono fun e W' hl1 => ?_
  obtain ⟨v, S', rfl, hb, _, _, _, hr⟩ := hl1
  have hvv := hr.v_eq
  subst hvv
  have hW' := hW
  obtain ⟨p, q, hA, hV, hpq, hz, hnd⟩ := hW
  rw [hv] at hV
  obtain ⟨rfl, rfl⟩ := trodVars_none hV
  refine ⟨_, rfl, post_of_below (pa := p) (pv := []) hW' (fun b sp hd => ?_) (fun sp hsp => ?_) (fun sp hsp => ?_) hpq hb (ok_one hrt rfl (okWide_bool_mk htb _))⟩
  · rw [h1, hrt]; exact trodAll_mk1 (shut_bool htb _)
  · rw [h2]
    refine trodAll_stays hl hrec hA (fun x hx => hb.same ?_) (fun x hx => hsp x ?_)
    · exact hW'.lt x (by rw [hpq]; exact List.mem_append_left _ hx)
    · rw [hpq]; exact List.mem_append_left _ hx
  · rw [h3, hv]; rfl
end
end Go.Proofs.Ytkollnaojpppcaa
