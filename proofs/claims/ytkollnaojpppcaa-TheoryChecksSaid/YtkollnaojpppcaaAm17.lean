/- An abstract machine for the text, part seventeen: operations one by one; objects that are let go; plain lemmas over any program; no condition. -/
import Derived.Test.YtkollnaojpppcaaAm16
namespace Go.Proofs.Ytkollnaojpppcaa
open Go.RowKit

section
variable {P : Program} {TT : TTab} {PT : PTab} {B : Base} {σ : AS} {Q : Exit → AS → Prop} {ops : Array Oper}
/-- The operations of a region, one after the other. -/
def SPL (P : Program) (B : Base) (ops : Array Oper) (l : List Oper) (σ : AS) (Q : Exit → AS → Prop) : Prop := ∀ D G w a, R (B.d D) G σ w a → wpListIn (FR B.ro) 0 P ops (Post B Q) l a w
theorem s_regionL {id : Nat} (h : SPL P B ops ops.toList σ Q) : SP P B (.region id ops false) σ Q := fun D G w a hr => wpIn_region_list (h D G w a hr)
theorem spl_nil (h : Q .normal σ) : SPL P B ops [] σ Q := fun D G w a hr => ⟨D, G, σ, hr, h⟩
theorem spl_step (hTT : TTok P TT) (hPT : PTok P PT) {id : Nat} {o : Oper} {r : List Oper} {σ' : AS} (h : stepA TT PT ops id σ o = some σ') (k : SPL P B ops r σ' Q) : SPL P B ops (o :: r) σ Q := fun D G w a hr => by
  have := stepA_ok hTT hPT h hr (wpListIn (FR B.ro) 0 P ops (Post B Q) r) (Post B Q) fun G' w' a' _ hr' => k D G' w' a' hr'
  unfold wpListIn
  exact this
theorem spl_opI {o : Oper} {r : List Oper} {s : Res} (hd : dstOk σ o = true) (hw : wantA σ ops o = some true) (hc : CoreI P B o σ s) (k : SPL P B ops r ((σ.upd s.2).put o.dst s.1) Q) : SPL P B ops (o :: r) σ Q := fun D G w a hr => by
  unfold wpListIn
  rw [if_pos (wantA_ok hr hw)]
  exact hc D G w a hr _ _ fun G' w' x hle hr' hx => k D G' w' _ (hr'.put (fun d hdd => R.dst (G := G) (w := w) (a := a) hd d hdd) hx)
theorem spl_op {o : Oper} {r : List Oper} {s : Res} (hd : dstOk σ o = true) (hw : wantA σ ops o = some true) (hc : CoreOk P o σ s) (k : SPL P B ops r ((σ.upd s.2).put o.dst s.1) Q) (hnd : ∀ c, o.op ≠ .defer c := by intro c hc; cases hc) : SPL P B ops (o :: r) σ Q := spl_opI hd hw (hc.inn hnd) k
theorem runL_nil {id : Nat} : runL TT PT ops [] id σ = some σ := rfl
theorem runL_cons {id : Nat} {o : Oper} {r : List Oper} {σ1 σ' : AS} (h : stepA TT PT ops id σ o = some σ1) (k : runL TT PT ops r (id + 1) σ1 = some σ') : runL TT PT ops (o :: r) id σ = some σ' := by
  unfold runL; rw [h]; exact k
theorem runE_nil {id : Nat} : runE TT PT ops [] id σ = some (σ, []) := rfl
theorem runE_cons {id : Nat} {o : Oper} {r : List Oper} {e : Ef} {σ1 σ' : AS} {es : List Ef} (h : effA TT PT ops id σ o = some e) (h1 : e.app σ = σ1) (k : runE TT PT ops r (id + 1) σ1 = some (σ', es)) : runE TT PT ops (o :: r) id σ = some (σ', e :: es) := by
  unfold runE; rw [h]; simp only; rw [h1, k]
theorem s_region2 (hTT : TTok P TT) (hPT : PTok P PT) {id q : Nat} {l : List Oper} {σ' : AS} (hq : nxt σ = q) (h : runL TT PT l.toArray l q σ = some σ') (k : Q .normal σ') : SP P B (.region id l.toArray false) σ Q := sp_region hTT hPT (hq ▸ h) k
theorem s_draw2 (hP : P.follows .mixedOrders = true) (hTT : TTok P TT) (hPT : PTok P PT) {id q : Nat} {l : List Oper} {es : List Ef} {σ' : AS} (hq : nxt σ = q) (h : runE TT PT l.toArray l q σ = some (σ', es)) (hok : ordOk l es = true) (k : Q .normal σ') : SP P B (.region id l.toArray true) σ Q := s_draw (ops := l.toArray) hP hTT hPT (hq ▸ h) hok k
theorem s_cond_t {c : Operand} {x y : Code} (hc : σ.ev c = some (.v (.bool true))) (h : SP P B x σ Q) : SP P B (.cond c x y) σ Q := sp_cond hc (fun _ => h) (fun h => by cases h)
theorem s_cond_f {c : Operand} {x y : Code} (hc : σ.ev c = some (.v (.bool false))) (h : SP P B y σ Q) : SP P B (.cond c x y) σ Q := sp_cond hc (fun h => by cases h) (fun _ => h)
end

section frz
variable {P : Program} {σ : AS} {B : Base} {G : Gh} {w : World} {a : Act}
def frzV (σ : AS) (D : Nat → Bool) (av : AV) : AV := (σ.shut2 D av).getD av
def frzC (σ : AS) (D : Nat → Bool) (av : AV) : AV := (σ.shut1 D av).getD av
def frzO (σ : AS) (D : Nat → Bool) (ob : AObj) : AObj := if idsLL ob.xs = [] then ob else { ob with xs := ob.xs.map fun r => r.map (frzC σ D) }
def AS.frz (σ : AS) (D : Nat → Bool) : AS := ⟨σ.n, σ.slots.map fun p => (p.1, frzV σ D p.2), (σ.objs.filter fun p => !D p.1).map fun p => (p.1, frzO σ D p.2), σ.ids⟩
theorem lk_map {α β : Type} (f : α → β) : ∀ (l : List (Nat × α)) (t : Nat), lk (l.map fun p => (p.1, f p.2)) t = (lk l t).map f
  | [], _ => rfl
  | (e, u) :: r, t => by
    simp only [List.map_cons, lk]
    split
    · rfl
    · exact lk_map f r t
theorem lk_filter {α : Type} (D : Nat → Bool) : ∀ (l : List (Nat × α)) (t : Nat), lk (l.filter fun p => !D p.1) t = if D t = true then none else lk l t
  | [], t => by simp [lk]
  | (e, u) :: r, t => by
    rw [List.filter_cons]
    by_cases h : D e = true
    · simp only [h, Bool.not_true, Bool.false_eq_true, if_false]
      rw [lk_filter D r t]
      by_cases he : e = t
      · subst he; simp [h]
      · simp [lk, he]
    · simp only [h, Bool.not_false, if_true]
      simp only [lk]
      rw [lk_filter D r t]
      by_cases he : e = t
      · subst he; simp [h]
      · simp [he]
theorem frz_rv (hr : R B G σ w a) (D : Nat → Bool) {av : AV} {v : Value} (hv : Rv G av v) : Rv (G.frz σ D w) (frzV σ D av) v := by
  unfold frzV
  cases h : σ.shut2 D av with
  | none => exact hv.mono (frz_le hr D)
  | some av' => exact shut2_ok hr (T := (G.frz σ D w).S) (L := G.loc) (frz_le hr D).S (fun k ob b x p u hD hk hl hc => by rw [frz_in hD hk hl]; exact hc) hv h
theorem frz_rc (hr : R B G σ w a) (D : Nat → Bool) {av : AV} {v : Value} (hv : Rv G av v) : Rv (G.frz σ D w) (frzC σ D av) v := by
  unfold frzC
  cases h : σ.shut1 D av with
  | none => exact hv.mono (frz_le hr D)
  | some av' => exact shut1_ok hr (T := (G.frz σ D w).S) (L := G.loc) (frz_le hr D).S (fun k ob b x p u hD hk hl hc => by rw [frz_in hD hk hl]; exact hc) hv h
theorem R.frz (hr : R B G σ w a) (D : Nat → Bool) : R B (G.frz σ D w) (σ.frz D) w a := by
  have h := hr.freeze D (σ.objs.filter fun p => !D p.1) (fun k ob hk => by
    rw [lk_filter] at hk
    split at hk
    · cases hk
    · rename_i hd; exact ⟨hk, by simpa using hd⟩)
  have hh := h.heap
  have hobj : ∀ k ob', lk (σ.frz D).objs k = some ob' → ∃ ob, lk (σ.objs.filter fun p => !D p.1) k = some ob ∧ ob' = frzO σ D ob := fun k ob' hk => by
    rw [show (σ.frz D).objs = (σ.objs.filter fun p => !D p.1).map fun p => (p.1, frzO σ D p.2) from rfl, lk_map, Option.map_eq_some_iff] at hk
    obtain ⟨ob, h1, h2⟩ := hk
    exact ⟨ob, h1, h2.symm⟩
  refine ⟨hr.n, fun t av ht => ?_, hr.defers, ⟨hh.os, hh.tape, hh.output, hh.size, hh.old, fun k ob' hk => ?_, fun k ob' hk => ?_, fun k k' ob ob' hk hk' => ?_, hh.st, fun k ob' hk => ?_, hh.fresh, hh.keep, hh.fix, hh.pin, hh.base⟩, hr.ids⟩
  · rw [show (σ.frz D).slots = σ.slots.map fun p => (p.1, frzV σ D p.2) from rfl, lk_map, Option.map_eq_some_iff] at ht
    obtain ⟨bv, h1, rfl⟩ := ht
    obtain ⟨h2, h3⟩ := hr.slot t bv h1
    exact ⟨h2, frz_rv hr D h3⟩
  · obtain ⟨ob, h1, rfl⟩ := hobj k ob' hk
    unfold frzO
    split
    · exact hh.obj k ob h1
    · have h1' : lk σ.objs k = some ob := by
        rw [lk_filter] at h1
        split at h1
        · cases h1
        · exact h1
      obtain ⟨blk, base, cap, g1, g2, g3, g4, g5⟩ := hr.heap.obj k ob h1'
      have hget : ∀ i, (ob.xs.map fun r => r.map (frzC σ D)).getD i [] = (ob.xs.getD i []).map (frzC σ D) := fun i => by
        simp only [List.getD, List.getElem?_map]
        cases ob.xs[i]? <;> rfl
      refine ⟨blk, base, cap, g1, by simpa using g2, g3, fun i hi => ?_, ?_⟩
      · simp only [List.length_map] at hi
        rw [hget, List.length_map]; exact g4 i hi
      · cases blk with
        | none => exact g5
        | some b =>
          obtain ⟨vs, g6, g7, g8⟩ := g5
          refine ⟨vs, g6, g7, fun i j hi hj => ?_⟩
          simp only [List.length_map] at hi
          obtain ⟨g9, g10⟩ := g8 i j hi hj
          refine ⟨g9, ?_⟩
          rw [hget]
          have hjl : j < (ob.xs.getD i []).length := by rw [g4 i hi]; exact hj
          have : ((ob.xs.getD i []).map (frzC σ D)).getD j .any = frzC σ D ((ob.xs.getD i []).getD j .any) := by
            generalize ob.xs.getD i [] = l at hjl
            simp [List.getD, hjl]
          rw [this]
          exact frz_rc hr D g10
  · obtain ⟨ob, h1, rfl⟩ := hobj k ob' hk; exact hh.own k ob h1
  · obtain ⟨o1, h1, rfl⟩ := hobj k ob hk
    obtain ⟨o2, h2, rfl⟩ := hobj k' ob' hk'
    exact hh.inj k k' o1 o2 h1 h2
  · obtain ⟨ob, h1, rfl⟩ := hobj k ob' hk; exact hh.sep k ob h1
/-- Some objects are no longer written. -/
theorem s_frz {c : Code} {Q : Exit → AS → Prop} (D : Nat → Bool) (k : SP P B c (σ.frz D) Q) : SP P B c σ Q := fun D' G w a hr => k D' _ w a (hr.frz D)
end frz

/-- A nil slice as an object without elements. -/
theorem s_nil {P : Program} {B : Base} {c : Code} {σ : AS} {Q : Exit → AS → Prop} (t id : Nat) (e : TypeId) (sz : Nat) (h : lk σ.slots t = some (.v (.slice none 0 0))) (hid : id ∉ σ.ids) (k : SP P B c ⟨σ.n, st σ.slots t (.ref id 0 0), (id, ⟨e, sz, []⟩) :: σ.objs, id :: σ.ids⟩ Q) : SP P B c σ Q := fun D0 G w a hr => by
  have hn : G.loc id = none := by
    cases hl : G.loc id with
    | none => rfl
    | some l => exact absurd (hr.ids id (by rw [hl]; simp)) hid
  have hle : G.le (G.add id (none, 0, 0, sz)) := Gh.add_le hn
  have hh := hr.heap
  have hold : ∀ k ob, lk ((id, (⟨e, sz, []⟩ : AObj)) :: σ.objs) k = some ob → k = id ∧ ob = ⟨e, sz, []⟩ ∨ k ≠ id ∧ lk σ.objs k = some ob := fun k ob hk => by
    simp only [lk] at hk
    split at hk
    · rename_i e1; cases hk; exact .inl ⟨e1.symm, rfl⟩
    · rename_i e1; exact .inr ⟨Ne.symm e1, hk⟩
  have hloc : ∀ k, k ≠ id → (G.add id (none, 0, 0, sz)).loc k = G.loc k := fun k hk => if_neg hk
  have hl0 : (G.add id (none, 0, 0, sz)).loc id = some (none, 0, 0, sz) := Gh.add_self
  refine k D0 (G.add id (none, 0, 0, sz)) w a ⟨hr.n, fun s av hs => ?_, hr.defers, ⟨hh.os, hh.tape, hh.output, hh.size, hh.old, fun k ob hk => ?_, fun k ob hk b base cap z hl => ?_, fun k k' ob ob' hk hk' b x y hl hl' => ?_, hh.st, fun k ob hk b x hl => ?_, hh.fresh, hh.keep, fun k l hk => hle.loc _ _ (hh.fix k l hk), hh.pin, hh.base⟩, fun k hk => ?_⟩
  · rw [show (⟨σ.n, st σ.slots t (.ref id 0 0), (id, ⟨e, sz, []⟩) :: σ.objs, id :: σ.ids⟩ : AS).slots = st σ.slots t (.ref id 0 0) from rfl, lk_st] at hs
    split at hs
    · rename_i e1; subst e1; cases hs
      obtain ⟨h1, h2⟩ := hr.slot t _ h
      refine ⟨h1, ?_⟩
      rw [h2.v_eq]
      exact .ref id 0 0 none 0 0 sz none hl0 (Nat.le_refl _) (by omega) (fun h => by omega) (fun _ => rfl)
    · obtain ⟨h1, h2⟩ := hr.slot s av hs
      exact ⟨h1, h2.mono hle⟩
  · rcases hold k ob hk with ⟨rfl, rfl⟩ | ⟨h1, h2⟩
    · exact ⟨none, 0, 0, hl0, Nat.le_refl _, by omega, fun i hi => by simp at hi, rfl⟩
    · exact (hh.obj k ob h2).mono hle fun _ _ _ _ _ => rfl
  · rcases hold k ob hk with ⟨rfl, rfl⟩ | ⟨h1, h2⟩
    · rw [hl0] at hl; cases hl
    · rw [hloc k h1] at hl; exact hh.own k ob h2 _ _ _ _ hl
  · rcases hold k ob hk with ⟨rfl, rfl⟩ | ⟨h1, h2⟩
    · rw [hl0] at hl; cases hl
    · rcases hold k' ob' hk' with ⟨rfl, rfl⟩ | ⟨h3, h4⟩
      · rw [hl0] at hl'; cases hl'
      · rw [hloc k h1] at hl; rw [hloc k' h3] at hl'
        exact hh.inj k k' ob ob' h2 h4 _ _ _ hl hl'
  · rcases hold k ob hk with ⟨rfl, rfl⟩ | ⟨h1, h2⟩
    · rw [hl0] at hl; cases hl
    · rw [hloc k h1] at hl; exact hh.sep k ob h2 _ _ hl
  · by_cases h1 : k = id
    · subst h1; exact List.mem_cons_self
    · rw [hloc k h1] at hk; exact List.mem_cons_of_mem _ (hr.ids k hk)
theorem rv_nil0 {G : Gh} (sz : Nat) : Rv G (.sl sz []) (.slice none 0 0) := .sl sz [] none 0 0 (fun _ _ => undef) rfl (Nat.le_refl _) (by unfold AMax; omega) (fun _ => rfl) (fun i hi => by simp at hi) (fun h => by simp at h) (fun i j hi => by simp at hi) (fun i j hi => by simp at hi)
/-- A nil slice in an object's cell as a list without elements. -/
theorem s_cell {P : Program} {B : Base} {c : Code} {σ : AS} {Q : Exit → AS → Prop} (k e j sz : Nat) {ob : AObj} (hk : lk σ.objs k = some ob) (h : (ob.xs.getD e []).getD j .any = .v (.slice none 0 0)) (kk : SP P B c ⟨σ.n, σ.slots, st σ.objs k { ob with xs := ob.xs.set e ((ob.xs.getD e []).set j (.sl sz [])) }, σ.ids⟩ Q) : SP P B c σ Q := fun D0 G w a hr => by
  have hh := hr.heap
  have hold : ∀ q ob', lk (st σ.objs k { ob with xs := ob.xs.set e ((ob.xs.getD e []).set j (.sl sz [])) }) q = some ob' → ∃ ob0, lk σ.objs q = some ob0 ∧ ((q = k ∧ ob0 = ob ∧ ob' = { ob with xs := ob.xs.set e ((ob.xs.getD e []).set j (.sl sz [])) }) ∨ ob' = ob0) := fun q ob' hq => by
    rw [lk_st] at hq
    split at hq
    · rename_i e1; subst e1; cases hq; exact ⟨ob, hk, .inl ⟨rfl, rfl, rfl⟩⟩
    · exact ⟨ob', hq, .inr rfl⟩
  refine kk D0 G w a ⟨hr.n, hr.slot, hr.defers, ⟨hh.os, hh.tape, hh.output, hh.size, hh.old, fun q ob' hq => ?_, fun q ob' hq => ?_, fun q q' ob1 ob2 hq hq' => ?_, hh.st, fun q ob' hq => ?_, hh.fresh, hh.keep, hh.fix, hh.pin, hh.base⟩, hr.ids⟩
  · obtain ⟨ob0, h1, h2⟩ := hold q ob' hq
    rcases h2 with ⟨rfl, rfl, rfl⟩ | rfl
    · obtain ⟨blk, base, cap, g1, g2, g3, g4, g5⟩ := hh.obj q _ h1
      have hget : ∀ i, (ob0.xs.set e ((ob0.xs.getD e []).set j (.sl sz []))).getD i [] = if i = e ∧ e < ob0.xs.length then (ob0.xs.getD e []).set j (.sl sz []) else ob0.xs.getD i [] := fun i => by
        by_cases h1 : i = e
        · subst h1
          by_cases h2 : i < ob0.xs.length
          · simp [List.getD, h2]
          · simp [List.getD, h2]
        · simp [List.getD, List.getElem?_set, Ne.symm h1, h1]
      refine ⟨blk, base, cap, g1, by simpa using g2, g3, fun i hi => ?_, ?_⟩
      · simp only [List.length_set] at hi
        rw [hget]
        split
        · rename_i h2; rw [List.length_set]; obtain ⟨rfl, _⟩ := h2; exact g4 _ hi
        · exact g4 i hi
      · cases blk with
        | none => exact g5
        | some b =>
          obtain ⟨vs, g6, g7, g8⟩ := g5
          refine ⟨vs, g6, g7, fun i l hi hl => ?_⟩
          simp only [List.length_set] at hi
          obtain ⟨g9, g10⟩ := g8 i l hi hl
          refine ⟨g9, ?_⟩
          rw [hget]
          split
          · rename_i h2
            obtain ⟨rfl, h3⟩ := h2
            by_cases hjl : l = j
            · subst hjl
              rw [h] at g10
              have hlen : l < (ob0.xs.getD i []).length := by rw [g4 i hi]; exact hl
              have : ((ob0.xs.getD i []).set l (.sl sz [])).getD l .any = .sl sz [] := by
                generalize ob0.xs.getD i [] = r at hlen
                simp [List.getD, hlen]
              rw [this, g10.v_eq]
              exact rv_nil0 sz
            · have : ((ob0.xs.getD i []).set j (.sl sz [])).getD l .any = (ob0.xs.getD i []).getD l .any := by simp [List.getD, List.getElem?_set, Ne.symm hjl]
              rw [this]; exact g10
          · exact g10
    · exact hh.obj q _ h1
  · obtain ⟨ob0, h1, _⟩ := hold q ob' hq; exact fun b base cap z hl => hh.own q ob0 h1 b base cap z hl
  · obtain ⟨o1, h1, _⟩ := hold q ob1 hq
    obtain ⟨o2, h2, _⟩ := hold q' ob2 hq'
    exact fun b x y => hh.inj q q' o1 o2 h1 h2 b x y
  · obtain ⟨ob0, h1, _⟩ := hold q ob' hq; exact fun b x hl => hh.sep q ob0 h1 b x hl
theorem post_ret {TT : TTab} {fn : Func} {res av : AV} {e : Exit} {σ : AS} {rs : List ResultVar} (he : e = .normal ∨ e = .ret) (hr : fn.results.toList = rs) (h1 : retA TT σ rs = some av) (h2 : σ.shut (fun _ => true) av = some res) : PostP TT fn res e σ := ⟨he, av, by rw [hr]; exact h1, h2⟩
theorem s_eq {P : Program} {B : Base} {c : Code} {σ τ : AS} {Q : Exit → AS → Prop} (h : σ = τ) (k : SP P B c τ Q) : SP P B c σ Q := h ▸ k
/-- What is not wanted is let go. -/
theorem s_weak {P : Program} {B : Base} {c : Code} {σ : AS} {Q : Exit → AS → Prop} (τ : AS) (h : Weak σ τ) (k : SP P B c τ Q) (hI : B.I0 = [] := by assumption) : SP P B c σ Q := sp_weak (by rw [hI]; exact h) k
end Go.Proofs.Ytkollnaojpppcaa
