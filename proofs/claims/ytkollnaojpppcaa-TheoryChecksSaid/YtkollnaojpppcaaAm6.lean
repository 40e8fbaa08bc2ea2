/- An abstract machine for the text, part six: memory that is made and written; plain lemmas over any program; no condition. -/
import Derived.Test.YtkollnaojpppcaaAm5
import Derived.Laws.Append
import Derived.Laws.MakeOwn
namespace Go.Proofs.Ytkollnaojpppcaa
open Go.RowKit

/-- A piece of a list put in the place of another. -/
def spl {α : Type} (l : List α) (j : Nat) (cs : List α) : List α := l.take j ++ cs ++ l.drop (j + cs.length)
theorem spl_len {α : Type} {l : List α} {j : Nat} {cs : List α} (h : j + cs.length ≤ l.length) : (spl l j cs).length = l.length := by simp [spl]; omega
theorem spl_getD {α : Type} {l : List α} {j : Nat} {cs : List α} (h : j + cs.length ≤ l.length) (i : Nat) (d : α) : (spl l j cs).getD i d = if j ≤ i ∧ i < j + cs.length then cs.getD (i - j) d else l.getD i d := by
  simp only [spl, List.getD, List.append_assoc]
  by_cases h1 : i < j
  · rw [if_neg (by omega), List.getElem?_append_left (by simp; omega), List.getElem?_take, if_pos h1]
  · by_cases h2 : i < j + cs.length
    · rw [if_pos ⟨by omega, h2⟩, List.getElem?_append_right (by simp; omega), List.getElem?_append_left (by simp; omega)]
      congr 2; simp; omega
    · rw [if_neg (by omega), List.getElem?_append_right (by simp; omega), List.getElem?_append_right (by simp; omega), List.getElem?_drop]
      congr 2; simp; omega

section mem
variable {P : Program} {σ : AS} {B : Base} {G : Gh} {w : World} {a : Act}

theorem R.fresh (hr : R B G σ w a) {id : Nat} (h : id ∉ σ.ids) : G.loc id = none := by
  cases hl : G.loc id with
  | none => rfl
  | some l => exact absurd (hr.ids id (by rw [hl]; simp)) h
theorem updI_one (ids : List Nat) (id k : Nat) (x : Option AObj) : k ∈ updI ids [(id, x)] ↔ k = id ∨ k ∈ ids := by
  simp only [updI]
  split
  · rename_i h
    constructor
    · exact .inr
    · rintro (rfl | h2); exact h; exact h2
  · simp

/-- An object is made. -/
theorem R.new (hr : R B G σ w a) {id : Nat} (hid : id ∉ σ.ids) {t : TypeId} {sz cap : Nat} {xs : List (List AV)} {vs : Array Value} (hcap : xs.length ≤ cap) (hmax : cap ≤ 9223372036854775807) (hsz : cap * sz ≤ vs.size) (hlen : ∀ i, i < xs.length → (xs.getD i []).length = sz)
    (hval : ∀ i j, i < xs.length → j < sz → (vs.getD (i * sz + j) undef).oneCell' = true ∧ Rv G ((xs.getD i []).getD j .any) (vs.getD (i * sz + j) undef)) {w1 : World} (hw : w1.heap = w.heap ∧ w1.os = w.os ∧ w1.tape = w.tape ∧ w1.output = w.output) :
    G.le (G.add id (some w.heap.size, 0, cap, sz)) ∧ R B (G.add id (some w.heap.size, 0, cap, sz)) (σ.upd [(id, some ⟨t, sz, xs⟩)]) (w1.alloc (.cells vs t)) a := by
  have hn := hr.fresh hid
  have hle : G.le (G.add id (some w.heap.size, 0, cap, sz)) := Gh.add_le hn
  obtain ⟨hh, ho, ht, hu⟩ := hw
  have hnew : (w1.alloc (.cells vs t)).heap[w.heap.size]? = some (.cells vs t (0, 0)) := by rw [← hh]; exact heap_alloc_new w1 _
  have hold : ∀ b, b < w.heap.size → (w1.alloc (.cells vs t)).heap[b]? = w.heap[b]? := fun b hb => by
    rw [Below.heap_alloc w1 _ b (by rw [hh]; exact hb), hh]
  refine ⟨hle, hr.n, fun s av hs => ?_, hr.defers, ?_, fun k hk => ?_⟩
  · obtain ⟨h1, h2⟩ := hr.slot s av hs
    exact ⟨h1, h2.mono hle⟩
  · refine hr.heap.step ho ht hu (by show w.heap.size ≤ (w1.heap.push _).size; rw [hh]; simp) hle rfl w.heap.size id (fun b _ hlt => hold b hlt) (.inl (Nat.le_refl _)) (fun k ob hk => ?_)
    simp only [AS.upd, updO, lk_st] at hk
    split at hk
    · rename_i e; subst e
      cases hk
      refine .inl ⟨rfl, ⟨some w.heap.size, 0, cap, Gh.add_self, hcap, hmax, hlen, vs, hnew, by simpa using hsz, fun i j hi hj => ?_⟩, fun b x hl => ?_⟩
      · simp only [Nat.zero_add]
        exact ⟨(hval i j hi hj).1, (hval i j hi hj).2.mono hle⟩
      · rw [Gh.add_self] at hl; cases hl; rfl
    · rename_i e
      refine .inr ⟨Ne.symm e, hk, fun b x hl => ?_⟩
      have := (hr.heap.obj k ob hk).lt hl
      omega
  · rw [AS.upd, updI_one]
    simp only [Gh.add] at hk
    split at hk
    · exact .inl (by assumption)
    · exact .inr (hr.ids k hk)

theorem setRow_frame (w : World) (g : Nat) (vs : Array Value) : (w.setRow g vs).os = w.os ∧ (w.setRow g vs).tape = w.tape ∧ (w.setRow g vs).output = w.output ∧ (w.setRow g vs).heap.size = w.heap.size ∧ ∀ b, b ≠ g → (w.setRow g vs).heap[b]? = w.heap[b]? := by
  refine ⟨rfl, rfl, rfl, by simp [World.setRow], fun b hb => ?_⟩
  simp only [World.setRow, Array.getElem?_modify]
  rw [if_neg (fun e => hb e.symm)]

/-- An object's cells are written. -/
theorem R.write (hr : R B G σ w a) {k e j : Nat} {ob : AObj} (hk : lk σ.objs k = some ob) {b base cap sz : Nat} (hl : G.loc k = some (some b, base, cap, sz)) (he : e < ob.xs.length) {cs : List AV} {us : List Value} (hj : j + cs.length ≤ ob.sz) (hus : us.length = cs.length)
    (h1 : ∀ u ∈ us, u.oneCell' = true) (hv : ∀ i, i < cs.length → Rv G (cs.getD i .any) (us.getD i undef)) :
    ∃ vs : Array Value, w.heap[b]? = some (.cells vs ob.t (0, 0)) ∧ base + (e * ob.sz + j) + us.length ≤ vs.size ∧
      R B G (σ.upd [(k, some { ob with xs := ob.xs.set e (spl (ob.xs.getD e []) j cs) })]) (w.setRow b (spl vs.toList (base + (e * ob.sz + j)) us).toArray) a := by
  obtain ⟨blk, ba, ca, g1, g2, g3, g4, g5⟩ := hr.heap.obj k ob hk
  rw [hl] at g1
  cases g1
  obtain ⟨vs, g6, g7, g8⟩ := g5
  have hrow : (e + 1) * ob.sz ≤ cap * ob.sz := Nat.mul_le_mul_right _ (by omega)
  rw [Nat.add_mul] at hrow
  have hfit : base + (e * ob.sz + j) + us.length ≤ vs.size := by omega
  have hlen := g4 e he
  refine ⟨vs, g6, hfit, hr.n, fun s av hs => hr.slot s av hs, hr.defers, ?_, fun q hq => ?_⟩
  · obtain ⟨f1, f2, f3, f4, f5⟩ := setRow_frame w b (spl vs.toList (base + (e * ob.sz + j)) us).toArray
    refine hr.heap.step f1 f2 f3 (by rw [f4]; exact Nat.le_refl _) (Gh.le.refl G) rfl b k (fun q hq _ => f5 q hq) (.inr ⟨k, ob, _, hk, hl⟩) (fun q oq hq => ?_)
    simp only [AS.upd, updO, lk_st] at hq
    split at hq
    · rename_i eq; subst eq
      cases hq
      refine .inl ⟨rfl, ⟨some b, base, cap, hl, by simpa using g2, g3, fun i hi => ?_, (spl vs.toList (base + (e * ob.sz + j)) us).toArray, ?_, ?_, fun i c hi hc => ?_⟩, fun b' x hl' => ?_⟩
      · simp only [List.length_set] at hi
        by_cases h : i = e
        · subst h
          have : (ob.xs.set i (spl (ob.xs.getD i []) j cs)).getD i [] = spl (ob.xs.getD i []) j cs := by simp [List.getD, List.getElem?_set, he]
          rw [this, spl_len (l := ob.xs.getD i []) (j := j) (cs := cs) (by omega)]; exact hlen
        · have : (ob.xs.set e (spl (ob.xs.getD e []) j cs)).getD i [] = ob.xs.getD i [] := by simp [List.getD, List.getElem?_set, Ne.symm h]
          rw [this]; exact g4 i hi
      · simp [World.setRow, g6, Array.getElem?_modify]
      · have := spl_len (l := vs.toList) (j := base + (e * ob.sz + j)) (cs := us) (by simpa using hfit)
        simp only [List.size_toArray, this]; simpa using g7
      · simp only [List.length_set] at hi
        replace hc : c < ob.sz := hc
        have hget : (spl vs.toList (base + (e * ob.sz + j)) us).toArray.getD (base + (i * ob.sz + c)) undef = if base + (e * ob.sz + j) ≤ base + (i * ob.sz + c) ∧ base + (i * ob.sz + c) < base + (e * ob.sz + j) + us.length then us.getD (base + (i * ob.sz + c) - (base + (e * ob.sz + j))) undef else vs.getD (base + (i * ob.sz + c)) undef := by
          have := spl_getD (l := vs.toList) (j := base + (e * ob.sz + j)) (cs := us) (by simpa using hfit) (base + (i * ob.sz + c)) undef
          simpa [List.getD, Array.getD_eq_getD_getElem?] using this
        rw [hget]
        by_cases h : i = e
        · subst h
          have e1 : (ob.xs.set i (spl (ob.xs.getD i []) j cs)).getD i [] = spl (ob.xs.getD i []) j cs := by simp [List.getD, List.getElem?_set, he]
          rw [e1, spl_getD (l := ob.xs.getD i []) (j := j) (cs := cs) (by omega)]
          by_cases h2 : j ≤ c ∧ c < j + cs.length
          · rw [if_pos ⟨by omega, by omega⟩, if_pos h2]
            have e2 : base + (i * ob.sz + c) - (base + (i * ob.sz + j)) = c - j := by omega
            rw [e2]
            have hcl : c - j < us.length := by omega
            refine ⟨h1 _ ?_, hv _ (by omega)⟩
            simp [List.getD, hcl]
          · rw [if_neg (by omega), if_neg h2]
            exact g8 i c hi hc
        · have e1 : (ob.xs.set e (spl (ob.xs.getD e []) j cs)).getD i [] = ob.xs.getD i [] := by simp [List.getD, List.getElem?_set, Ne.symm h]
          rw [e1, if_neg ?_]
          · exact g8 i c hi hc
          · rcases Nat.lt_or_gt_of_ne h with h | h
            · have : (i + 1) * ob.sz ≤ e * ob.sz := Nat.mul_le_mul_right _ h
              rw [Nat.add_mul] at this; omega
            · have : (e + 1) * ob.sz ≤ i * ob.sz := Nat.mul_le_mul_right _ h
              rw [Nat.add_mul] at this; omega
      · rw [hl] at hl'; cases hl'; rfl
    · rename_i eq
      refine .inr ⟨Ne.symm eq, hq, fun b' x hl' e => eq ?_⟩
      subst e
      exact hr.heap.inj k q ob oq hk hq _ _ _ hl hl'
  · rw [AS.upd, updI_one]; exact .inr (hr.ids q hq)
end mem

section ops
variable {P : Program} {σ : AS} {o : Oper}
theorem getD_flat {cs : List AV} {ti : TI} (n : Nat) : True := trivial

theorem alloc_eq (w : World) (o : Obj) : ({ w with heap := w.heap.push o } : World) = w.alloc o := rfl
theorem ok_alloc {t : TypeId} {ti : TI} {id : Nat} (hT : TIok P t ti) (ho : o.op = .alloc t) (hid : id ∉ σ.ids) : CoreOk P o σ (.ptr id 0 0, [(id, some ⟨t, ti.size, [ti.zero.map .v]⟩)]) := by
  intro B G w a hr K Q hK
  obtain ⟨z, hz1, hz2⟩ := hT.run_zero (w := w)
  obtain ⟨hle, hr'⟩ := hr.new (t := t) (sz := ti.size) (cap := 1) (xs := [ti.zero.map .v]) (vs := z.cells) hid (by simp) (by omega) (by rw [← hT.len, ← hz2]; simp) (fun i hi => by
      have : i = 0 := by simpa using hi
      subst this; simp [hT.len]) (fun i j hi hj => by
      have : i = 0 := by simpa using hi
      subst this
      have hjz : j < z.cells.size := by rw [← Array.length_toList, hz2, hT.len]; exact hj
      have e : z.cells.getD (0 * ti.size + j) undef = ti.zero.getD j undef := by rw [← hz2]; simp [List.getD, Array.getD_eq_getD_getElem?]
      have hj2 : j < ti.zero.length := by rw [hT.len]; exact hj
      rw [e]
      refine ⟨hT.one _ (by simp [List.getD, hj2]), ?_⟩
      have : (([ti.zero.map AV.v] : List (List AV)).getD 0 []).getD j .any = .v (ti.zero.getD j undef) := by simp [List.getD, hj2]
      rw [this]; exact .v _) (w1 := w) ⟨rfl, rfl, rfl, rfl⟩
  unfold Oper.wp
  have hrun : (execOp a.eval o).run P w = .ok (.value (.pointer (some ⟨w.heap.size, 0, none⟩))) (w.alloc (.cells z.cells t)) := by
    unfold execOp
    rw [ho]
    simp [Instr.alloc, hz1, newVar, newRow, alloc_eq]
  rw [hrun]
  refine hK _ _ _ hle hr' ?_
  have := Rv.ptr (G := G.add id (some w.heap.size, 0, 1, ti.size)) id 0 0 w.heap.size 0 1 ti.size Gh.add_self
  simpa using this
theorem ok_box {t : TypeId} {ti : TI} {id : Nat} {x : Operand} {av : AV} (hT : TIok P t ti) (ho : o.op = .box t x) (hx : σ.ev x = some av) (hf : av.flat = true) (hl : av.cells.length = ti.size) (hid : id ∉ σ.ids) : CoreOk P o σ (.ptr id 0 0, [(id, some ⟨t, ti.size, [av.cells]⟩)]) := by
  intro B G w a hr K Q hK
  obtain ⟨g1, g2, g3⟩ := (hr.ev hx).stored hf
  obtain ⟨hle, hr'⟩ := hr.new (t := t) (sz := ti.size) (cap := 1) (xs := [av.cells]) (vs := (a.eval x).cells) hid (by simp) (by omega) (by omega) (fun i hi => by
      have : i = 0 := by simpa using hi
      subst this; simpa using hl) (fun i j hi hj => by
      have : i = 0 := by simpa using hi
      subst this
      have hjz : j < (a.eval x).cells.size := by omega
      simp only [Nat.zero_mul, Nat.zero_add]
      refine ⟨g2 _ (by simp [Array.getD, hjz]), ?_⟩
      have : (([av.cells] : List (List AV)).getD 0 []).getD j .any = av.cells.getD j .any := by simp
      rw [this]; exact g3 j (by omega)) (w1 := w) ⟨rfl, rfl, rfl, rfl⟩
  unfold Oper.wp
  have hrun : (execOp a.eval o).run P w = .ok (.value (.pointer (some ⟨w.heap.size, 0, none⟩))) (w.alloc (.cells (a.eval x).cells t)) := by
    unfold execOp
    rw [ho]
    simp [Instr.box, newVar, newRow, alloc_eq]
  rw [hrun]
  refine hK _ _ _ hle hr' ?_
  have := Rv.ptr (G := G.add id (some w.heap.size, 0, 1, ti.size)) id 0 0 w.heap.size 0 1 ti.size Gh.add_self
  simpa using this
theorem ok_store {t : TypeId} {ti : TI} {p x : Operand} {k e j : Nat} {ob : AObj} {av : AV} (hT : TIok P t ti) (ho : o.op = .store t p x) (hp : σ.ev p = some (.ptr k e j)) (hk : lk σ.objs k = some ob) (he : e < ob.xs.length) (hx : σ.ev x = some av) (hf : av.flat = true) (hl : av.cells.length = ti.size) (hj : j + ti.size ≤ ob.sz) :
    CoreOk P o σ (.v undef, [(k, some { ob with xs := ob.xs.set e (spl (ob.xs.getD e []) j av.cells) })]) := by
  intro B G w a hr K Q hK
  obtain ⟨b, base, cap, sz, hl', hv⟩ := ptr_inv (hr.ev hp)
  obtain ⟨g1, g2, g3⟩ := (hr.ev hx).stored hf
  have hsz : sz = ob.sz := by
    obtain ⟨blk, ba, ca, h1, _⟩ := hr.heap.obj k ob hk
    rw [hl'] at h1; cases h1; rfl
  subst hsz
  obtain ⟨vs, h6, h7, h8⟩ := hr.write hk hl' he (j := j) (cs := av.cells) (us := (a.eval x).cells.toList) (by omega) (by simpa using g1) (by simpa using g2) (fun i hi => by simpa [List.getD, Array.getD_eq_getD_getElem?] using g3 i hi)
  have hst := run_storeCells_at P b (base + (e * ob.sz + j)) ob.t (a.eval x).cells.toList 0 vs w h6 (by simpa using h7) (by simpa using g2)
  unfold Oper.wp
  have hrun : (execOp a.eval o).run P w = .ok .skip (w.setRow b (spl vs.toList (base + (e * ob.sz + j)) (a.eval x).cells.toList).toArray) := by
    unfold execOp
    rw [ho]
    simp only [hv, Instr.storeAt, Instr.sureAddr, storeVar, Sem.run_bind, Sem.run_pure, Result.andThen_ok, hT.run_size]
    rw [if_neg (by rw [g1, hl]; simp)]
    simp only [Sem.run_bind, Sem.run_pure, Result.andThen_ok, hst]
    simp [spl]
  rw [hrun]
  exact hK G _ undef (Gh.le.refl G) h8 (.v _)
end ops
end Go.Proofs.Ytkollnaojpppcaa
