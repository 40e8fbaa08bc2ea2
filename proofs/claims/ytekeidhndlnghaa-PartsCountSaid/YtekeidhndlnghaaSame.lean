/- Contracts of censusref16.SameTheory, Same; components as lists; no condition. -/
import Derived.Test.YtekeidhndlnghaaGrowW
namespace Go.Proofs.Ytekeidhndlnghaa
set_option linter.unusedVariables false
set_option linter.unusedSimpArgs false
set_option linter.unusedSectionVars false
open Go.RowKit

set_option maxHeartbeats 1000000 in
theorem ref16SameTheory_c {F G : Foot} {w : World} {v u : Value} {L M : List (List Int)} (N K : Int) (h : IntRows F w v L) (h' : IntRows G w u M) :
    Calls Try.prog 19 #[.agg #[.int .i64 N, v], .agg #[.int .i64 K, u]] w (Gives w (.bool (decide (N = K ∧ L = M)))) := by
  obtain ⟨a, n, c, rfl, HE, _, hm⟩ := h.open
  obtain ⟨a', n', c', rfl, HE', _, hm'⟩ := h'.open
  have HR := Lib.hid h
  have HR' := Lib.hid h'
  clear h h'
  by_cases hNK : N = K
  · subst hNK
    by_cases hn : n = n'
    · subst hn
      have hs1 : Two ((w.alloc (.cells #[.int .i64 N, .slice a n c] 24)).alloc (.cells #[.int .i64 N, .slice a' n c'] 24)) w.heap.size 24 (.int .i64 N) (.slice a n c) := (Two.new _ _ _ _).alloc _
      have hs2 : Two ((w.alloc (.cells #[.int .i64 N, .slice a n c] 24)).alloc (.cells #[.int .i64 N, .slice a' n c'] 24)) (w.heap.size + 1) 24 (.int .i64 N) (.slice a' n c') := by
        have := Two.new (w.alloc (.cells #[.int .i64 N, .slice a n c] 24)) 24 (.int .i64 N) (.slice a' n c')
        simpa using this
      go_enter Try.func19, Try.ntmps19
      go_wp2
      go_loopw [5] (fun i wr => ∃ k : Nat, k ≤ n ∧ i = .int .i64 k ∧ Hid (∀ j, j < k → L.getD j [] = M.getD j []) ∧ Two wr w.heap.size 24 (.int .i64 N) (.slice a n c) ∧ Two wr (w.heap.size + 1) 24 (.int .i64 N) (.slice a' n c') ∧ Below w.heap.size w wr) (fun i _ => n - (intOf i).toNat)
      case atStart => exact ⟨0, Nat.zero_le _, rfl, by intro j hj; omega, hs1, hs2, below2 _ _ _⟩
      clear hs1 hs2
      case round =>
        obtain ⟨k, hk, rfl, hno, hv1, hv2, hb⟩ := hrel
        have t1 := hv1.c1
        have t2 := hv2.c1
        by_cases hlt : k < n
        · have hI : IntRows F wr (.slice a n c) L := Enc.below _ HR.out hb
          have hJ : IntRows G wr (.slice a' n c') M := Enc.below _ HR'.out hb
          obtain ⟨b, o, a2, n2, c2, rfl, hcell, hrow, _, _⟩ := hI.at k hlt
          obtain ⟨b', o', a3, n3, c3, rfl, hcell', hrow', _, _⟩ := hJ.at k hlt
          have p1 := fun g => cell_plus t1 g
          have p2 := fun g => cell_plus t2 g
          have p3 := fun g => cell_plus hcell g
          have p4 := fun g => cell_plus hcell' g
          have hk0 : (0 : Int) ≤ k := by omega
          have hk1 : (k : Int) < n := by omega
          have HR1 := Lib.hid hrow
          have HR2 := Lib.hid hrow'
          clear hI hJ hrow hrow' hcell hcell'
          have HS := Lib.hid (show ∀ g, Calls Try.prog 16 #[.slice a2 n2 c2, .slice a3 n3 c3] (plus wr g) (fun (e : Ending) w' => e = .returned (.bool (decide (L.getD k [] = M.getD k []))) ∧ Below (plus wr g).heap.size (plus wr g) w') from fun g => (ref04Same_c (Enc.below _ HR1.out (below_plus wr g)) (Enc.below _ HR2.out (below_plus wr g))).mono fun e w' ⟨he, q, hw⟩ => ⟨he, hw ▸ ⟨rfl, rfl, rfl, Nat.le_refl _, fun _ _ => rfl⟩⟩)
          by_cases he : L.getD k [] = M.getD k []
          all_goals
            have hsm := HS.out
            simp only [he, decide_true, decide_false] at hsm
            have HEQ := Lib.hid he
            clear he
            go_wp2
            refine wp_region_grow_lit (by kernel_rfl) (by kernel_rfl) ?_
            repeat (go_big_quiet_step ((go_at_call 16; exact Calls.grow_of (hsm _))))
            refine wpQuiet_nil ?_
            intro _ hw1
            obtain ⟨gg, hw2⟩ := hw1
            subst hw2
            have hbp := below_plus wr gg
            clear p1 p2 p3 p4 hsm
            go_wp2
          · go_roundw
            case rel => exact ⟨k + 1, by omega, by go_num, by intro j hj; by_cases e : j < k; exact hno.out j e; (obtain rfl : j = k := by omega); exact HEQ.out, hv1.below hbp hv1.lt, hv2.below hbp hv2.lt, hb.trans (hbp.mono hb.size)⟩
            case measure => simp [intOf]; omega
          · go_ret
            exact ⟨congrArg (fun b => Ending.returned (.bool b)) (by rw [eq_comm, decide_eq_false_iff_not]; rintro ⟨_, e⟩; exact HEQ.out (by rw [e])), hb.trans (hbp.mono hb.size)⟩
        · go_wp2
          go_ret
          have hLM : L = M := by
            apply List.ext_getElem (by rw [← HE.out, ← HE'.out])
            intro j h1 h2
            have := hno.out j (by have := HE.out; omega)
            simpa [List.getD, h1, h2] using this
          exact ⟨congrArg (fun b => Ending.returned (.bool b)) (by rw [eq_comm, decide_eq_true_iff]; simp [hLM]), hb⟩
    · have hne : ((n : Int) != n') = true := by simp; omega
      go_enter Try.func19, Try.ntmps19
      go_wp2
      go_ret
      exact ⟨congrArg (fun b => Ending.returned (.bool b)) (by rw [eq_comm, decide_eq_false_iff_not]; rintro ⟨_, e⟩; exact hn (by rw [HE.out, HE'.out, e])), below2 _ _ _⟩
  · have hne : (N != K) = true := by simp [hNK]
    go_enter Try.func19, Try.ntmps19
    go_wp2
    go_ret
    exact ⟨congrArg (fun b => Ending.returned (.bool b)) (by rw [eq_comm, decide_eq_false_iff_not]; rintro ⟨e, _⟩; exact hNK e), below2 _ _ _⟩

abbrev PartL := BitVec 128 × List Int
def ePart : Enc PartL where
  size := 3
  bytes := 40
  rep F w x cs := ∃ v, cs = [WV (lo x.1), WV (hi x.1), v] ∧ Ints F w v x.2
  len := fun ⟨_, h, _⟩ => by rw [h]; rfl
  mono := fun ⟨v, h1, h2⟩ k => ⟨v, h1, (eList eInt).mono h2 k⟩
  weak := fun ⟨v, h1, h2⟩ k => ⟨v, h1, (eList eInt).weak h2 k⟩
def Parts (F : Foot) (w : World) (v : Value) (l : List PartL) : Prop := (eList ePart).rep F w l [v]

theorem Parts.open {F : Foot} {w : World} {v : Value} {l : List PartL} (h : Parts F w v l) :
    ∃ a n c, v = .slice a n c ∧ Hid (n = l.length) ∧ n ≤ c ∧ n ≤ 3518437208883 := by
  obtain ⟨a', n', c', h1, h2, h3, h4, _, h5⟩ := h
  simp only [List.cons.injEq, and_true] at h1
  exact ⟨a', n', c', h1, h2, h3, by simp only [ePart] at h4; omega⟩
theorem Parts.at {F : Foot} {w : World} {a : Option Addr} {n c : Nat} {l : List PartL} (h : Parts F w (.slice a n c) l) (k : Nat) (hk : k < n) :
    ∃ b o a2 n2 c2, a = some ⟨b, o, none⟩ ∧ w.cell? ⟨b, o + k * 3, none⟩ = some (WV (lo (l.getD k default).1)) ∧ w.cell? ⟨b, o + k * 3 + 1, none⟩ = some (WV (hi (l.getD k default).1)) ∧ w.cell? ⟨b, o + k * 3 + 2, none⟩ = some (.slice a2 n2 c2) ∧ Ints F w (.slice a2 n2 c2) (l.getD k default).2 := by
  obtain ⟨a', n', c', h1, h2, h3, h4, _, h5⟩ := h
  simp only [List.cons.injEq, and_true, Value.slice.injEq] at h1
  obtain ⟨rfl, rfl, rfl⟩ := h1
  obtain ⟨b, o, raw, g1, g2, g3, vv, g4, g5⟩ := h5 k (by omega)
  have e : l.getD k default = l[k]'(by omega) := by simp [List.getD, show k < l.length by omega]
  obtain ⟨a2, n2, c2, hv, _⟩ := g5.open
  subst hv
  subst g4
  rw [e]
  exact ⟨b, o, a2, n2, c2, g1, by simpa [ePart] using (g3 0 (by simp)).cell, by simpa [ePart] using (g3 1 (by simp)).cell, by simpa [ePart] using (g3 2 (by simp)).cell, g5⟩

set_option maxHeartbeats 1000000 in
theorem ref16Same_c {F G : Foot} {w : World} {v u : Value} {L M : List PartL} (h : Parts F w v L) (h' : Parts G w u M) :
    Calls Try.prog 14 #[v, u] w (Gives w (.bool (decide (L = M)))) := by
  obtain ⟨a, n, c, rfl, HE, _, hm⟩ := h.open
  obtain ⟨a', n', c', rfl, HE', _, hm'⟩ := h'.open
  have HR := Lib.hid h
  have HR' := Lib.hid h'
  clear h h'
  by_cases hn : n = n'
  · subst hn
    go_enter Try.func14, Try.ntmps14
    go_wp2
    go_loopw [5] (fun i wr => ∃ k : Nat, k ≤ n ∧ i = .int .i64 k ∧ Hid (∀ j, j < k → L.getD j default = M.getD j default) ∧ Below w.heap.size w wr) (fun i _ => n - (intOf i).toNat)
    case atStart => exact ⟨0, Nat.zero_le _, rfl, by intro j hj; omega, below0 _⟩
    case round =>
      obtain ⟨k, hk, rfl, hno, hb⟩ := hrel
      by_cases hlt : k < n
      · have hI : Parts F wr (.slice a n c) L := Enc.below _ HR.out hb
        have hJ : Parts G wr (.slice a' n c') M := Enc.below _ HR'.out hb
        obtain ⟨b, o, a2, n2, c2, rfl, hc0, hc1, hc2, hrow⟩ := hI.at k hlt
        obtain ⟨b', o', a3, n3, c3, rfl, hd0, hd1, hd2, hrow'⟩ := hJ.at k hlt
        have HPE := Lib.hid (fun (p : (L.getD k default).1 = (M.getD k default).1) (q : (L.getD k default).2 = (M.getD k default).2) => (Prod.ext p q : L.getD k default = M.getD k default))
        have HPN1 := Lib.hid (fun (p : L.getD k default = M.getD k default) => congrArg Prod.fst p)
        have HPN2 := Lib.hid (fun (p : L.getD k default = M.getD k default) => congrArg Prod.snd p)
        generalize hx1 : (L.getD k default).1 = x1 at *
        generalize hx2 : (L.getD k default).2 = x2 at *
        generalize hy1 : (M.getD k default).1 = y1 at *
        generalize hy2 : (M.getD k default).2 = y2 at *
        clear hx1 hx2 hy1 hy2
        have p0 := fun g => cell_plus hc0 g
        have p1 := fun g => cell_plus hc1 g
        have p2 := fun g => cell_plus hc2 g
        have q0 := fun g => cell_plus hd0 g
        have q1 := fun g => cell_plus hd1 g
        have q2 := fun g => cell_plus hd2 g
        have hk0 : (0 : Int) ≤ k := by omega
        have hk1 : (k : Int) < n := by omega
        have hkk : ((k : Int)).toNat = k := by omega
        have hneq := fun W => neSets ((lo x1).toNat : Int) ((hi x1).toNat : Int) ((lo y1).toNat : Int) ((hi y1).toNat : Int) W
        rw [words_beq] at hneq
        have HR1 := Lib.hid hrow
        have HR2 := Lib.hid hrow'
        clear hI hJ hrow hrow' hc0 hc1 hc2 hd0 hd1 hd2
        have HS := Lib.hid (show ∀ g, Calls Try.prog 16 #[.slice a2 n2 c2, .slice a3 n3 c3] (plus wr g) (fun (e : Ending) w' => e = .returned (.bool (decide (x2 = y2))) ∧ Below (plus wr g).heap.size (plus wr g) w') from fun g => (ref04Same_c (Enc.below _ HR1.out (below_plus wr g)) (Enc.below _ HR2.out (below_plus wr g))).mono fun e w' ⟨he, q, hw⟩ => ⟨he, hw ▸ ⟨rfl, rfl, rfl, Nat.le_refl _, fun _ _ => rfl⟩⟩)
        by_cases he1 : x1 = y1
        · rw [decide_eq_true he1, Bool.not_true] at hneq
          have HEQ1 := Lib.hid he1
          clear he1
          by_cases he : x2 = y2
          all_goals
            have hsm := HS.out
            simp only [he, decide_true, decide_false] at hsm
            have HEQ := Lib.hid he
            clear he
            go_wp2
            refine wp_region_grow_lit (by kernel_rfl) (by kernel_rfl) ?_
            repeat (go_big_quiet_step ((go_at_call 16; exact Calls.grow_of (hsm _))))
            refine wpQuiet_nil ?_
            intro _ hw1
            obtain ⟨gg, hw2⟩ := hw1
            subst hw2
            have hbp := below_plus wr gg
            clear p0 p1 p2 q0 q1 q2 hsm hneq
            go_wp2
          · go_roundw
            case rel => exact ⟨k + 1, by omega, by go_num, by intro j hj; by_cases e : j < k; exact hno.out j e; (obtain rfl : j = k := by omega); exact HPE.out HEQ1.out HEQ.out, hb.trans (hbp.mono hb.size)⟩
            case measure => simp [intOf]; omega
          · go_ret
            exact ⟨congrArg (fun b => Ending.returned (.bool b)) (by rw [eq_comm, decide_eq_false_iff_not]; intro e; exact HEQ.out (HPN2.out (by rw [e]))), hb.trans (hbp.mono hb.size)⟩
        · rw [decide_eq_false he1, Bool.not_false] at hneq
          have HEQ1 := Lib.hid he1
          have hsm := HS.out
          clear he1
          go_wp2
          refine wp_region_grow_lit (by kernel_rfl) (by kernel_rfl) ?_
          repeat (go_big_quiet_step ((go_at_call 16; exact Calls.grow_of (hsm _))))
          refine wpQuiet_nil ?_
          intro _ hw1
          obtain ⟨gg, hw2⟩ := hw1
          subst hw2
          have hbp := below_plus wr gg
          clear p0 p1 p2 q0 q1 q2 hsm hneq
          go_wp2
          go_ret
          exact ⟨congrArg (fun b => Ending.returned (.bool b)) (by rw [eq_comm, decide_eq_false_iff_not]; intro e; exact HEQ1.out (HPN1.out (by rw [e]))), hb.trans (hbp.mono hb.size)⟩
      · go_wp2
        go_ret
        have hLM : L = M := by
          apply List.ext_getElem (by rw [← HE.out, ← HE'.out])
          intro j h1 h2
          have := hno.out j (by have := HE.out; omega)
          simpa [List.getD, h1, h2] using this
        exact ⟨congrArg (fun b => Ending.returned (.bool b)) (by rw [eq_comm, decide_eq_true_iff]; simp [hLM]), hb⟩
  · have hne : ((n : Int) != n') = true := by simp; omega
    go_enter Try.func14, Try.ntmps14
    go_wp2
    go_ret
    exact ⟨congrArg (fun b => Ending.returned (.bool b)) (by rw [eq_comm, decide_eq_false_iff_not]; intro e; exact hn (by rw [HE.out, HE'.out, e])), below0 _⟩
end Go.Proofs.Ytekeidhndlnghaa
