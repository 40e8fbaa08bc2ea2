/- Contracts of the document's chapter 16 as rows of the table; no condition. -/
import Derived.Test.YtekeidhndlnghaaSame
import Derived.Test.YtekeidhndlnghaaFew
import Derived.Test.YtekeidhndlnghaaPt16
namespace Go.Proofs.Ytekeidhndlnghaa
set_option linter.unusedVariables false
set_option linter.unusedSimpArgs false
set_option linter.unusedSectionVars false
open Go.RowKit
set_option maxRecDepth 100000
@[simp] def g_r6Valid : List AV → Option (AV × Bool)
  | [.agg [.v (.int .i64 N), a0], a1] => (match toRows a0 with | some L => (match toInts a1 with | some ts => if (okI N && okRows L && okInts ts) = true then some (.v (.bool (validT N L ts)), true) else none | none => none) | none => none)
  | _ => none
theorem e_r6Valid : EntOk Try.prog 34 g_r6Valid := ent_fresh (by kernel_rfl) fun args r fr h => by
  unfold g_r6Valid at h
  split at h
  · rename_i N a0 a1
    split at h
    · rename_i L t0
      split at h
      · rename_i ts t1
        split at h
        · rename_i hc
          simp only [Bool.and_eq_true] at hc
          obtain ⟨⟨m0, o0⟩, o1⟩ := hc
          cases h
          exact fresh_gives (fun G => .v _) fun S w vs hS hn hv => by
            obtain ⟨u0, u1, rfl, r0, r1⟩ := args2 hn hv
            obtain ⟨z0, q0, p0⟩ := th_inv r0
            subst q0
            have q0 := rows_of hS p0 t0 o0
            have q1 := ints_of hS r1 t1 o1
            exact ref16valid_c N (okI_iff.1 m0) q0 q1
        · cases h
      · cases h
    · cases h
  · cases h

@[simp] def g_r6Left : List AV → Option (AV × Bool)
  | [a0, a1] => (match toInts a0 with | some xs => (match toInts a1 with | some ys => if (okInts xs && okInts ys) = true then some (.v (.bool (leftL xs ys)), true) else none | none => none) | none => none)
  | _ => none
theorem e_r6Left : EntOk Try.prog 22 g_r6Left := ent_fresh (by kernel_rfl) fun args r fr h => by
  unfold g_r6Left at h
  split at h
  · rename_i a0 a1
    split at h
    · rename_i xs t0
      split at h
      · rename_i ys t1
        split at h
        · rename_i hc
          simp only [Bool.and_eq_true] at hc
          obtain ⟨o0, o1⟩ := hc
          cases h
          exact fresh_same fun S w vs hS hn hv => by
            obtain ⟨u0, u1, rfl, r0, r1⟩ := args2 hn hv
            have q0 := ints_of hS r0 t0 o0
            have q1 := ints_of hS r1 t1 o1
            exact ref16Left_c q0 q1
        · cases h
      · cases h
    · cases h
  · cases h

@[simp] def g_r6Same : List AV → Option (AV × Bool)
  | [.agg [.v (.int .i64 N), a0], .agg [.v (.int .i64 M), a1]] => (match toRows a0 with | some L => (match toRows a1 with | some K => if (okI N && okRows L && okI M && okRows K) = true then some (.v (.bool (decide (N = M ∧ L = K))), true) else none | none => none) | none => none)
  | _ => none
theorem e_r6Same : EntOk Try.prog 19 g_r6Same := ent_fresh (by kernel_rfl) fun args r fr h => by
  unfold g_r6Same at h
  split at h
  · rename_i N a0 M a1
    split at h
    · rename_i L t0
      split at h
      · rename_i K t1
        split at h
        · rename_i hc
          simp only [Bool.and_eq_true] at hc
          obtain ⟨⟨⟨m0, o0⟩, m1⟩, o1⟩ := hc
          cases h
          exact fresh_gives (fun G => .v _) fun S w vs hS hn hv => by
            obtain ⟨u0, u1, rfl, r0, r1⟩ := args2 hn hv
            obtain ⟨z0, q0, p0⟩ := th_inv r0
            subst q0
            have q0 := rows_of hS p0 t0 o0
            obtain ⟨z1, q1, p1⟩ := th_inv r1
            subst q1
            have q1 := rows_of hS p1 t1 o1
            exact ref16SameTheory_c N M q0 q1
        · cases h
      · cases h
    · cases h
  · cases h

@[simp] def g_few6 : List AV → Option (AV × Bool)
  | [.agg [.v (.int .i64 N), a0], a1] => (match toRows a0 with | some L => (match toInts a1 with | some ts => if (okI N && okRows L && okInts ts) = true then some (.v (.bool (fewT L ts)), true) else none | none => none) | none => none)
  | _ => none
theorem e_few6 : EntOk Try.prog 10 g_few6 := ent_fresh (by kernel_rfl) fun args r fr h => by
  unfold g_few6 at h
  split at h
  · rename_i N a0 a1
    split at h
    · rename_i L t0
      split at h
      · rename_i ts t1
        split at h
        · rename_i hc
          simp only [Bool.and_eq_true] at hc
          obtain ⟨⟨m0, o0⟩, o1⟩ := hc
          cases h
          exact fresh_gives (fun G => .v _) fun S w vs hS hn hv => by
            obtain ⟨u0, u1, rfl, r0, r1⟩ := args2 hn hv
            obtain ⟨z0, q0, p0⟩ := th_inv r0
            subst q0
            have q0 := rows_of hS p0 t0 o0
            have q1 := ints_of hS r1 t1 o1
            exact few_c N q0 q1
        · cases h
      · cases h
    · cases h
  · cases h

@[simp] def g_r6Rest : List AV → Option (AV × Bool)
  | [a0, a1] => (match toInts a0 with | some xs => (match toInts a1 with | some ys => if (okInts xs && okInts ys && okL xs) = true then some (aInts (restL xs ys), true) else none | none => none) | none => none)
  | _ => none
theorem e_r6Rest : EntOk Try.prog 40 g_r6Rest := ent_fresh (by kernel_rfl) fun args r fr h => by
  unfold g_r6Rest at h
  split at h
  · rename_i a0 a1
    split at h
    · rename_i xs t0
      split at h
      · rename_i ys t1
        split at h
        · rename_i hc
          simp only [Bool.and_eq_true] at hc
          obtain ⟨⟨o0, o1⟩, hk⟩ := hc
          cases h
          exact fun S w vs hS hn hv => by
            obtain ⟨u0, u1, rfl, r0, r1⟩ := args2 hn hv
            have q0 := ints_of hS r0 t0 o0
            have q1 := ints_of hS r1 t1 o1
            exact (ref16Rest_c q0 q1 (okL_iff.1 hk)).mono fun e w2 h2 => by obtain ⟨v2, rfl, h3, h4⟩ := h2; exact ⟨v2, rfl, h4, rv_ints h3 fun _ _ _ h => fresh_new h⟩
        · cases h
      · cases h
    · cases h
  · cases h

end Go.Proofs.Ytekeidhndlnghaa
