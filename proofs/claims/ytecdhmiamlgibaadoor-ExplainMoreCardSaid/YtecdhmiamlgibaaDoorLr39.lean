/- What a function returns in objects of its own, read as values that stay: pointers and slices; plain lemmas over any program; no condition. -/
import Derived.Test.YtecdhmiamlgibaaDoorLe39
import Derived.Test.YtecdhmiamlgibaaDoorAm20
namespace Go.Proofs.YtecdhmiamlgibaaDoor
set_option linter.unusedVariables false
set_option linter.unusedSimpArgs false
set_option linter.unusedSectionVars false
open Go.RowKit
set_option maxRecDepth 100000
section
variable {P : Program} {σ : AS} {o : Oper}
structure ReadT (G : Gh) (w : World) (objs : List (Nat × AObj)) (T : Nat → Nat → Option Value) : Prop where
  st : ∀ b o u, G.S b o = some u → T b o = some u
  ob : ∀ k ob b x p u, lk objs k = some ob → G.loc k = some (some b, x) → w.cell? ⟨b, p, none⟩ = some u → T b p = some u
theorem obj_pure {f : FuncId} {args : List AV} {res : AV} {objs : List (Nat × AObj)} {ids : List Nat} {res' : AV} (hF : FnObj P f args res objs ids)
    (hrd : ∀ (B : Base) (G : Gh) (n : Nat) (w : World) (a : Act) (v : Value) (T : Nat → Nat → Option Value), R B G ⟨n, [], objs, ids⟩ w a → ReadT G w objs T → Rv G res v → Rv (G0 T) res' v) : FnPure P f args res' := fun S w vs hS hn hv =>
  (hF.2 S w vs hS hn hv).mono fun e w' ⟨v, G', a', he, hr, hrv⟩ => by
    have hh := hr.heap
    have hb : Below w.heap.size w w' := ⟨hh.os, hh.tape, hh.output, hh.size, fun b hb => hh.old b hb (by simp [base0])⟩
    refine ⟨v, fun b o => if b < w.heap.size then S b o else w'.cell? ⟨b, o, none⟩, he, hb, fun b o u hs => ?_, fun b o u hs => ?_, fun b o u hs => ?_, hrd _ _ _ _ _ _ _ hr ⟨fun b o u hs => ?_, fun k ob b x p u hk hl hc => ?_⟩ hrv⟩
    · have := World.block_lt_of_cell? _ _ (hS.1 b o u hs)
      show (if b < w.heap.size then _ else _) = _
      rw [if_pos this]; exact hs
    · simp only at hs
      split at hs
      · rename_i hlt; exact (hb.cell hlt).trans (hS.1 b o u hs)
      · exact hs
    · simp only at hs
      split at hs
      · exact .inl hs
      · exact .inr (by omega)
    · show (if b < w.heap.size then _ else _) = _
      rcases hh.fresh b o u hs with h | h | h
      · have h2 : S b o = some u := h
        have := World.block_lt_of_cell? _ _ (hS.1 b o u h2)
        rw [if_pos this]; exact h2
      · rw [if_neg (by have : w.heap.size ≤ b := h; omega)]; exact hh.st b o u hs
      · cases h
    · show (if b < w.heap.size then _ else _) = _
      rcases hh.own k ob hk b x.1 x.2.1 x.2.2 hl with h | h
      · rw [if_neg (by have : w.heap.size ≤ b := h; omega)]; exact hc
      · cases h
theorem read_ref {B : Base} {G : Gh} {w : World} {a : Act} {T : Nat → Nat → Option Value} (hr : R B G σ w a) (hT : ReadT G w σ.objs T) {k off n : Nat} {av : AV} (hsh : σ.shut1 (fun _ => true) (.ref k off n) = some av) {v : Value} (hv : Rv G (.ref k off n) v) : Rv (G0 T) av v :=
  shut1_ok hr (T := T) hT.st (fun k ob b x p u _ hk hl hc => hT.ob k ob b x p u hk hl hc) (L := fun _ => none) hv hsh
theorem read_ptr {B : Base} {G : Gh} {w : World} {a : Act} {T : Nat → Nat → Option Value} (hr : R B G σ w a) (hT : ReadT G w σ.objs T) {k : Nat} {t : TypeId} {sz : Nat} {row : List AV} (hk : lk σ.objs k = some ⟨t, sz, [row]⟩) (hz : 0 < sz) (hzr : row.length = sz) {ds : List AV} (hl : ds.length = row.length)
    (hel : ∀ j u, j < row.length → Rv G (row.getD j .any) u → Rv (G0 T) (ds.getD j .any) u) {v : Value} (hv : Rv G (.ptr k 0 0) v) : Rv (G0 T) (.pt ds) v := by
  cases hv with
  | ptr _ _ _ b base cap sz2 hlc =>
    obtain ⟨blk', ba, ca, g1, g2, g3, g4, g5⟩ := (hr.heap.obj k _ hk).cells hz
    rw [hlc] at g1
    cases g1
    have hcell : ∀ j, j < row.length → ∃ u, w.cell? ⟨b, base + j, none⟩ = some u ∧ u.oneCell' = true ∧ Rv G (row.getD j .any) u := fun j hj => by
      obtain ⟨_, u, c1, _, c2, c3⟩ := hr.cellsOf hk hlc (e := 0) (j := j) (by simp) (by show j < sz; omega)
      rw [Nat.zero_mul, Nat.zero_add] at c1
      exact ⟨u, c1, c2, c3⟩
    refine .pt ds b (base + (0 * sz + 0)) (fun j => (w.cell? ⟨b, base + j, none⟩).getD undef) (fun j hj => ?_) (fun j hj => ?_) (fun j hj => ?_)
    · obtain ⟨u, c1, _, _⟩ := hcell j (by omega)
      simp only [c1, Option.getD_some]
      rw [show base + (0 * sz + 0) + j = base + j by omega]
      exact hT.ob k _ b (base, cap, sz) _ u hk hlc c1
    · obtain ⟨u, c1, c2, _⟩ := hcell j (by omega)
      simp only [c1, Option.getD_some]; exact c2
    · obtain ⟨u, c1, _, c3⟩ := hcell j (by omega)
      simp only [c1, Option.getD_some]
      exact hel j u (by omega) c3
theorem Rv.tupM {G G' : Gh} {cs ds : List AV} {v : Value} (h : Rv G (.tup cs) v) (hl : ds.length = cs.length) (hd : ∀ i u, i < cs.length → Rv G (cs.getD i .any) u → Rv G' (ds.getD i .any) u) : Rv G' (.tup ds) v := by
  cases h with
  | tup _ us h1 h2 => exact .tup ds us (by omega) fun i hi => hd i _ (by omega) (h2 i (by omega))
theorem post_obj {TT : TTab} {fn : Func} {res av : AV} {objs : List (Nat × AObj)} {e : Exit} {σ : AS} {rs : List ResultVar} (he : e = .normal ∨ e = .ret) (hr : fn.results.toList = rs) (h1 : retA TT σ rs = some av) (ρ : Nat → Nat) (h2 : res.ren ρ = av)
    (h3 : ∀ k ob, lk objs k = some ob → lk σ.objs (ρ k) = some ⟨ob.t, ob.sz, renLL ρ ob.xs⟩) (h4 : ∀ k ob k' ob', lk objs k = some ob → lk objs k' = some ob' → ρ k = ρ k' → k = k') : PostO TT fn res objs e σ := ⟨he, av, by rw [hr]; exact h1, ρ, h2, h3, h4⟩
end
end Go.Proofs.YtecdhmiamlgibaaDoor
