/- What is known in the law Again; no condition. -/
import Derived.Test.YtafikekndefjcaaDoorCf17
import Derived.Test.YtafikekndefjcaaDoorKi17
import Derived.Test.YtafikekndefjcaaDoorAm33
namespace Go.Proofs.YtafikekndefjcaaDoor
set_option linter.unusedVariables false
set_option linter.unusedSimpArgs false
set_option linter.unusedSectionVars false
open Go.RowKit
set_option maxRecDepth 100000
def mpA (R : List (Int × Int)) : AObj := ⟨68, 0, R.map rowV⟩
structure AgI (M : Int) (keys : List Int) (k j : Nat) (O : List (Nat × AObj)) (I : List Nat) (nm : Nat → Nat) (bd : Nat) : Prop where
  ca : CacheAt O I 3 1 nm M (esA keys M k)
  mp : lk O 4 = some (mpA (rowsA keys j))
  bo : OutC 3 1 nm (esA keys M k).length 4
  bi : 4 ∈ I
  bd : ∀ q ∈ I, q < bd
variable {M : Int} {keys : List Int} {k j bd : Nat} {O O1 : List (Nat × AObj)} {I : List Nat} {nm nm' : Nat → Nat}
theorem AgI.key (h : AgI M keys k j O I nm bd) (h3 : ∀ q, q ≠ bd → lk O1 q = lk O q) : AgI M keys k j O1 (bd :: I) nm (bd + 1) := by
  have hO : ∀ q ∈ I, lk O1 q = lk O q := fun q hq => by
    have := h.bd q hq
    exact h3 q (by omega)
  refine ⟨h.ca.mono hO fun q hq => List.mem_cons_of_mem _ hq, by rw [hO 4 h.bi]; exact h.mp, h.bo, List.mem_cons_of_mem _ h.bi, fun q hq => ?_⟩
  rcases List.mem_cons.1 hq with rfl | hq
  · omega
  · have := h.bd q hq; omega
theorem AgI.out {r : Nat} (h : AgI M keys k j O I nm bd) (hr : r ∉ I) : OutC 3 1 nm (esA keys M k).length r :=
  ⟨fun e => hr (e ▸ h.ca.ic), fun e => hr (e ▸ h.ca.im), fun t ht e => hr (e ▸ h.ca.inn t ht)⟩
theorem AgI.outb (h : AgI M keys k j O I nm bd) : OutC 3 1 nm (esA keys M k).length bd := h.out fun hb => by have := h.bd _ hb; omega
theorem AgI.put {x : Nat} {O3 : List (Nat × AObj)} (h : AgI M keys k j O I nm bd) (hx : bd ≤ x) (hs : 17 ≤ M.toNat)
    (h1 : CacheAt O3 (x :: I) 3 1 nm' M (dropZ (M.toNat - ([keys.getD k 0].length + 16)) ((esA keys M k).filter fun x => decide (x.1 ≠ [keys.getD k 0])) ++ [([keys.getD k 0], (k : Int))]))
    (h2 : ∀ j, j ≤ (dropZ (M.toNat - ([keys.getD k 0].length + 16)) ((esA keys M k).filter fun x => decide (x.1 ≠ [keys.getD k 0])) ++ [([keys.getD k 0], (k : Int))]).length → nm' j = x ∨ ∃ t, t ≤ (esA keys M k).length ∧ nm' j = nm t)
    (h3 : ∀ q, OutC 3 1 nm (esA keys M k).length q → q ≠ x → lk O3 q = lk O q) : AgI M keys (k + 1) j O3 (x :: I) nm' (x + 1) := by
  have he : esA keys M (k + 1) = dropZ (M.toNat - ([keys.getD k 0].length + 16)) ((esA keys M k).filter fun x => decide (x.1 ≠ [keys.getD k 0])) ++ [([keys.getD k 0], (k : Int))] := by
    rw [esA_succ]
    unfold putZ
    rw [if_neg (by show ¬ 17 > M.toNat; omega)]
    rfl
  have h0 := h.bd 4 h.bi
  refine ⟨by rw [he]; exact h1, ?_, ⟨by decide, by decide, fun t ht e => ?_⟩, List.mem_cons_of_mem _ h.bi, fun q hq => ?_⟩
  · rw [h3 4 h.bo (by omega)]; exact h.mp
  · rw [he] at ht
    rcases h2 t ht with e2 | ⟨u, u1, u2⟩
    · omega
    · exact h.bo.2.2 u u1 (e.trans u2)
  · rcases List.mem_cons.1 hq with rfl | hq
    · omega
    · have := h.bd q hq; omega
theorem AgI.same (h : AgI M keys k j O I nm bd) (hs : M.toNat < 17) : AgI M keys (k + 1) j O I nm bd := by
  have he : esA keys M (k + 1) = esA keys M k := by
    rw [esA_succ]
    unfold putZ
    rw [if_pos (by show 17 > M.toNat; omega)]
  exact ⟨by rw [he]; exact h.ca, h.mp, by rw [he]; exact h.bo, h.bi, h.bd⟩
theorem CacheAt.monoN {c m : Nat} {most : Int} {es : List (List Int × Int)} (h : CacheAt O I c m nm most es) (hO : ∀ q, (q = c ∨ q = m ∨ ∃ t, t ≤ es.length ∧ q = nm t) → lk O1 q = lk O q) : CacheAt O1 I c m nm most es :=
  ⟨by rw [hO _ (.inl rfl), h.hc], by rw [hO _ (.inr (.inl rfl)), h.hm], h.ring.mono fun j hj => hO _ (.inr (.inr ⟨j, hj, rfl⟩)), h.cm, h.cn, h.ic, h.im, h.inn, h.keys, h.ok, h.room, h.big⟩
theorem out_ne {n q : Nat} (h : OutC 3 1 nm n 4) (hq : q = 3 ∨ q = 1 ∨ ∃ t, t ≤ n ∧ q = nm t) : q ≠ 4 := by
  rcases hq with rfl | rfl | ⟨t, ht, rfl⟩
  · decide
  · decide
  · exact fun e => h.2.2 t ht e.symm
theorem AgI.map (h : AgI M keys k j O I nm bd) : AgI M keys k (j + 1) (st O 4 (mpA (updR (keys.getD j 0) (j : Int) (rowsA keys j)))) I nm bd :=
  ⟨h.ca.monoN fun q hq => by rw [lk_st, if_neg (Ne.symm (out_ne h.bo hq))], by rw [lk_st, if_pos rfl]; rfl, h.bo, h.bi, h.bd⟩
structure AgF (M : Int) (keys : List Int) (n kit : Nat) (O : List (Nat × AObj)) (I : List Nat) (nm : Nat → Nat) (bd : Nat) (L : List (Int × Int)) : Prop where
  ca : CacheAt O I 3 1 nm M (esA keys M n)
  kt : kit < bd
  sub : ∀ p ∈ L, p ∈ rowsA keys n
  bd : ∀ q ∈ I, q < bd
theorem AgI.frz (h : AgI M keys k j O I nm bd) : AgF M keys k bd (dl O 4) (bd :: I) nm (bd + 1) (rowsA keys k) :=
  ⟨(h.ca.monoN (O1 := dl O 4) fun q hq => by rw [lk_dl, if_neg (Ne.symm (out_ne h.bo hq))]).mono (fun _ _ => rfl) (fun q hq => List.mem_cons_of_mem _ hq), Nat.lt_succ_self bd, fun p h => h, fun q hq => by
    rcases List.mem_cons.1 hq with rfl | hq
    · omega
    · have := h.bd q hq; omega⟩
variable {n kit : Nat} {L L' : List (Int × Int)}
theorem AgF.more {I1 : List Nat} {b2 : Nat} (h : AgF M keys n kit O I nm bd L) (h1 : ∀ q ∈ I1, q < b2) (h2 : ∀ q ∈ I, q ∈ I1) (hb : bd ≤ b2) (h3 : ∀ q, q < bd → lk O1 q = lk O q) (hL : ∀ p ∈ L', p ∈ L) : AgF M keys n kit O1 I1 nm b2 L' :=
  ⟨h.ca.mono (fun q hq => h3 q (h.bd q hq)) h2, Nat.lt_of_lt_of_le h.kt hb, fun p hp => h.sub p (hL p hp), h1⟩
theorem dl_op {P : Program} {B : Base} {ops : Array Oper} {σ : AS} {Q : Exit → AS → Prop} {o : Oper} {r : List Oper} {s : Res} (hd : dstOk σ o = true) (hw : wantA σ ops o = some true) (hc : CoreOk P o σ s) (k : SPLD P B ops r ((σ.upd s.2).put o.dst s.1) Q) (hnd : ∀ c, o.op ≠ .defer c := by intro c hc; cases hc) : SPLD P B ops (o :: r) σ Q := dl_opI hd hw (hc.inn hnd) k
end Go.Proofs.YtafikekndefjcaaDoor
