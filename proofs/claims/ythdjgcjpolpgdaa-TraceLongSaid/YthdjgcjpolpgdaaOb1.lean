/- Functions that return a slice of their own, as objects: slices.Clone, lit.order, lit.Clause; no condition. -/
import Derived.Test.YthdjgcjpolpgdaaAm20
import Derived.Test.YthdjgcjpolpgdaaNrG
namespace Go.Proofs.Ythdjgcjpolpgdaa
set_option linter.unusedVariables false
set_option linter.unusedSimpArgs false
set_option linter.unusedSectionVars false
open Go.RowKit
set_option maxRecDepth 100000
def obI (xs : List Int) : AObj := ⟨3, 1, xs.map fun x => [.v (.int .i64 x)]⟩
theorem own_obj {S : Nat → Nat → Option Value} {w w' : World} {F : Foot} {v : Value} {xs : List Int} (hS : StOk S w) (ho : OwnL eInt F w' w.heap.size 3 v xs) (hb : Below w.heap.size w w') :
    ∃ (G' : Gh) (a' : Act), R (base0 S w) G' ⟨a'.tmps.size, [], [(0, obI xs)], [0]⟩ w' a' ∧ Rv G' (.ref 0 0 xs.length) v := by
  obtain ⟨g1, g2⟩ := OwnL.int_iff.1 ho
  obtain ⟨hl, hc⟩ := g1
  have hlt : ∀ b p u, S b p = some u → b < w.heap.size := fun b p u h => World.block_lt_of_cell? _ _ (hS.1 b p u h)
  have main : ∀ (blk : Option Nat) (cap : Nat), (∀ g, blk = some g → w.heap.size ≤ g) → Robj (⟨S, fun k => if k = 0 then some (blk, 0, cap, 1) else none⟩ : Gh) w' 0 (obI xs) →
      R (base0 S w) (⟨S, fun k => if k = 0 then some (blk, 0, cap, 1) else none⟩ : Gh) ⟨({ tmps := #[], defers := [] } : Act).tmps.size, [], [(0, obI xs)], [0]⟩ w' { tmps := #[], defers := [] } := fun blk cap hg hob => by
    have hlk : ∀ k o, lk [(0, obI xs)] k = some o → k = 0 ∧ o = obI xs := fun k o h => by
      simp only [lk] at h
      split at h
      · rename_i e; cases h; exact ⟨e.symm, rfl⟩
      · cases h
    have hloc : ∀ b x, (if (0 : Nat) = 0 then some (blk, 0, cap, 1) else none) = some (some b, x) → w.heap.size ≤ b := fun b x h => by
      rw [if_pos rfl] at h
      cases h
      exact hg _ rfl
    refine ⟨rfl, fun t av ht => (by cases ht), rfl, ⟨hb.os, hb.tape, hb.output, hb.size, fun b hlt' _ => hb.block b hlt', fun k o hk => ?_, fun k o hk b base cap' sz hl' => ?_, fun k k' o o' hk hk' b x y _ _ => ?_, fun b p u hs => (hb.cell (hlt b p u hs)).trans (hS.1 b p u hs), fun k o hk b x hl' p => ?_, fun b p u h => .inl h, fun b p u h => h, fun k l hk => (by cases hk), fun r hr => (by cases hr), ⟨List.nodup_nil, fun k l hk => (by cases hk), hS.2⟩⟩, fun k hk => ?_⟩
    · obtain ⟨rfl, rfl⟩ := hlk k o hk; exact hob
    · obtain ⟨rfl, rfl⟩ := hlk k o hk; exact .inl (hloc _ _ hl')
    · obtain ⟨rfl, _⟩ := hlk k o hk; obtain ⟨rfl, _⟩ := hlk k' o' hk'; rfl
    · obtain ⟨rfl, rfl⟩ := hlk k o hk
      have h1 := hloc _ _ hl'
      cases hs : S b p with
      | none => exact hs
      | some u => have := hlt b p u hs; omega
    · show k ∈ [0]
      by_cases e : k = 0
      · simp [e]
      · exact absurd (if_neg e) hk
  have hrow : ∀ i, i < (obI xs).xs.length → ((obI xs).xs.getD i []).length = (obI xs).sz := fun i hi => by
    simp only [obI, List.length_map] at hi ⊢
    simp [List.getD, hi]
  rcases hc with ⟨rfl, h0⟩ | ⟨g, cap, cur, rfl, hbg, hgg, hnc, hcm, hcs, htake⟩
  · obtain rfl : xs = [] := List.eq_nil_of_length_eq_zero h0
    refine ⟨_, _, main none 0 (fun g h => by cases h) (.of Nat.one_pos ⟨none, 0, 0, rfl, by simp [obI], by omega, hrow, rfl⟩), ?_⟩
    exact .ref 0 0 0 none 0 0 1 none rfl (by omega) (by omega) (fun h => by omega) (fun _ => rfl)
  · have hcm' : cap ≤ 9223372036854775807 := by simp only [maxLen] at hcm; omega
    refine ⟨_, _, main (some g) cap (fun g' h => by cases h; exact hbg) (.of Nat.one_pos ⟨some g, 0, cap, rfl, by simp only [obI, List.length_map]; exact hnc, hcm', hrow, cur, hgg, by show 0 + cap * 1 ≤ cur.size; omega, fun i j hi hj => ?_⟩), ?_⟩
    · simp only [obI, List.length_map] at hi
      have hj0 : j = 0 := by have : j < 1 := hj; omega
      subst hj0
      have e1 : 0 + (i * (obI xs).sz + 0) = i := by show 0 + (i * 1 + 0) = i; omega
      rw [e1]
      have e2 : cur.getD i undef = .int .i64 (xs.getD i 0) := by
        have h1 : (cur.toList.take (xs.length * 1))[i]? = (xs.map (Value.int .i64))[i]? := by rw [htake]
        rw [List.getElem?_take, if_pos (by omega)] at h1
        rw [Array.getD_eq_getD_getElem?, ← Array.getElem?_toList, h1]
        simp [List.getD, hi]
      rw [e2]
      have e3 : ((obI xs).xs.getD i []).getD 0 .any = .v (.int .i64 (xs.getD i 0)) := by simp [obI, List.getD, hi]
      rw [e3]
      exact ⟨rfl, .v _⟩
    · exact .ref 0 0 xs.length (some g) 0 cap 1 (some ⟨g, 0, none⟩) rfl (by omega) hcm' (fun _ => ⟨g, rfl, by simp⟩) (fun h => by cases h)
theorem within1 (xs : List Int) : Within (.ref 0 0 xs.length) [(0, obI xs)] [0] := by
  refine ⟨fun k hk => by simpa [AV.ids] using hk, fun k ob hk => ?_⟩
  simp only [lk] at hk
  split at hk
  · rename_i e; cases hk; subst e
    refine ⟨by simp, fun q hq => ?_⟩
    rw [show idsLL (obI xs).xs = [] from ids_ints xs] at hq; cases hq
  · cases hk
theorem gives_obj {f : FuncId} {args : List AV} {xs : List Int} (h : ∀ (S : Nat → Nat → Option Value) (w : World) (vs : Array Value), StOk S w → vs.size = args.length → (∀ i, i < args.length → Rv (G0 S) (args.getD i .any) (vs.getD i undef)) → Calls Try.prog f vs w (GivesOwn w xs)) : FnObj Try.prog f args (.ref 0 0 xs.length) [(0, obI xs)] [0] :=
  ⟨within1 xs, fun S w vs hS hn hv => (h S w vs hS hn hv).mono fun e w' ⟨v, he, hown, hb⟩ => by
    obtain ⟨G', a', h1, h2⟩ := own_obj hS hown hb
    exact ⟨v, G', a', he, h1, h2⟩⟩
theorem clone_obj (xs : List Int) (h : okInts xs = true) : FnObj Try.prog 99 [aInts xs] (.ref 0 0 xs.length) [(0, obI xs)] [0] :=
  gives_obj fun S w vs hS hn hv => by
    obtain ⟨u, rfl, hu⟩ := args1 hn hv
    exact clone_c (ints_of hS hu (toInts_ints _) h)
theorem order_obj (xs : List Int) (h : okInts xs = true) (hr : okL xs = true) : FnObj Try.prog 86 [aInts xs] (.ref 0 0 (orderL xs).length) [(0, obI (orderL xs))] [0] :=
  gives_obj fun S w vs hS hn hv => by
    obtain ⟨u, rfl, hu⟩ := args1 hn hv
    exact order_c (ints_of hS hu (toInts_ints _) h) (okL_iff.1 hr)
end Go.Proofs.Ythdjgcjpolpgdaa
