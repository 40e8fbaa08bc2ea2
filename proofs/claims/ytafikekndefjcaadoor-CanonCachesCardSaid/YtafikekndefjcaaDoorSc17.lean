/- What is known of both caches; no condition. -/
import Derived.Test.YtafikekndefjcaaDoorSn17
import Derived.Test.YtafikekndefjcaaDoorOp17
namespace Go.Proofs.YtafikekndefjcaaDoor
set_option linter.unusedVariables false
set_option linter.unusedSimpArgs false
set_option linter.unusedSectionVars false
open Go.RowKit
set_option maxRecDepth 100000
def stC (most : Int) (es : List (List Int × Int)) (x : OpC) : List (List Int × Int) := if x.1 % 3 = 2 then es else putZ most.toNat es (x.2.1, x.2.2)
def esC (most : Int) (l : List OpC) (k : Nat) : List (List Int × Int) := (l.take k).foldl (stC most) []
theorem esC_succ {most : Int} {l : List OpC} {k : Nat} (h : k < l.length) : esC most l (k + 1) = stC most (esC most l k) l[k] := by
  unfold esC
  rw [List.take_succ_eq_append_getElem h, List.foldl_append]
  rfl
structure CcI (most : Int) (e1 e2 : List (List Int × Int)) (O : List (Nat × AObj)) (I : List Nat) (nm : Nat → Nat) (L : AV) (bd : Nat) : Prop where
  ca : CacheAt O I 3 1 nm most e1
  rf : RefAt O I 5 L most e2
  o5 : OutC 3 1 nm e1.length 5
  oL : ∀ r off n, L = .ref r off n → OutC 3 1 nm e1.length r
  hi : ∀ q ∈ I, q < bd
variable {most : Int} {e1 e2 : List (List Int × Int)} {O O1 : List (Nat × AObj)} {I I1 : List Nat} {nm nm' : Nat → Nat} {L : AV} {bd b2 : Nat}
theorem RefAt.mono {rc : Nat} (h : RefAt O I rc L most e2) (h1 : ∀ q, q ∈ I → (q = rc ∨ ∀ r off n, L = .ref r off n → q = r → True) → lk O1 q = lk O q) (h2 : ∀ q ∈ I, q ∈ I1) : RefAt O1 I1 rc L most e2 := by
  refine ⟨by rw [h1 rc h.ic (.inl rfl)]; exact h.hc, ?_, h2 _ h.ic, h.ok⟩
  rcases h.hl with h3 | ⟨r, h3, h4, h5, h6⟩
  · exact .inl h3
  · exact .inr ⟨r, h3, by rw [h1 r h6 (.inr fun _ _ _ _ _ => trivial)]; exact h4, h5, h2 _ h6⟩
theorem CcI.more (h : CcI most e1 e2 O I nm L bd) (h1 : ∀ q, q < bd → lk O1 q = lk O q) (h2 : ∀ q ∈ I, q ∈ I1) (h3 : ∀ q ∈ I1, q < b2) : CcI most e1 e2 O1 I1 nm L b2 :=
  ⟨h.ca.mono (fun q hq => h1 q (h.hi q hq)) h2, h.rf.mono (fun q hq _ => h1 q (h.hi q hq)) h2, h.o5, h.oL, h3⟩
theorem CcI.other {x : Nat} (h : CcI most e1 e2 O I nm L bd) (hx : OutC 3 1 nm e1.length x) (h5 : x ≠ 5) (hL : ∀ r off n, L = .ref r off n → x ≠ r) (h1 : ∀ q, q ≠ x → lk O1 q = lk O q) : CcI most e1 e2 O1 I nm L bd := by
  refine ⟨⟨?_, ?_, h.ca.ring.mono fun j hj => h1 _ fun e => hx.2.2 j hj e.symm, h.ca.cm, h.ca.cn, h.ca.ic, h.ca.im, h.ca.inn, h.ca.keys, h.ca.ok, h.ca.room, h.ca.big⟩, ⟨?_, ?_, h.rf.ic, h.rf.ok⟩, h.o5, h.oL, h.hi⟩
  · rw [h1 3 fun e => hx.1 e.symm]; exact h.ca.hc
  · rw [h1 1 fun e => hx.2.1 e.symm]; exact h.ca.hm
  · rw [h1 5 (Ne.symm h5)]; exact h.rf.hc
  · rcases h.rf.hl with h3 | ⟨r, h3, h4, h6, h7⟩
    · exact .inl h3
    · exact .inr ⟨r, h3, by rw [h1 r (Ne.symm (hL r _ _ h3))]; exact h4, h6, h7⟩
theorem CcI.out {x : Nat} (h : CcI most e1 e2 O I nm L bd) (hx : x ∉ I) : OutC 3 1 nm e1.length x ∧ x ≠ 5 ∧ ∀ r off n, L = .ref r off n → x ≠ r :=
  ⟨⟨fun e => hx (e ▸ h.ca.ic), fun e => hx (e ▸ h.ca.im), fun t ht e => hx (e ▸ h.ca.inn t ht)⟩, fun e => hx (e ▸ h.rf.ic), fun r off n hr e => by
    rcases h.rf.hl with ⟨_, h3⟩ | ⟨r', h3, _, _, h7⟩
    · rw [h3] at hr; cases hr
    · rw [h3] at hr; cases hr; exact hx (e ▸ h7)⟩
theorem CcI.put {x : Nat} {e' : List (List Int × Int)} (h : CcI most e1 e2 O I nm L bd) (hx : bd ≤ x) (h1 : CacheAt O1 (x :: I) 3 1 nm' most e') (h2 : ∀ j, j ≤ e'.length → nm' j = x ∨ ∃ t, t ≤ e1.length ∧ nm' j = nm t)
    (h3 : ∀ q, OutC 3 1 nm e1.length q → q ≠ x → lk O1 q = lk O q) : CcI most e' e2 O1 (x :: I) nm' L (x + 1) := by
  have h5 := h.hi 5 h.rf.ic
  have ho : ∀ q, OutC 3 1 nm e1.length q → q < bd → OutC 3 1 nm' e'.length q := fun q hq hlt => ⟨hq.1, hq.2.1, fun t ht e => by
    rcases h2 t ht with e2 | ⟨u, u1, u2⟩
    · omega
    · exact hq.2.2 u u1 (e.trans u2)⟩
  have hrI : ∀ r off n, L = .ref r off n → r < bd := fun r off n hr => by
    rcases h.rf.hl with ⟨_, h3⟩ | ⟨r', h3, _, _, h7⟩
    · rw [h3] at hr; cases hr
    · rw [h3] at hr; cases hr; exact h.hi _ h7
  refine ⟨h1, ⟨by rw [h3 5 h.o5 (by omega)]; exact h.rf.hc, ?_, List.mem_cons_of_mem _ h.rf.ic, h.rf.ok⟩, ho 5 h.o5 h5, fun r off n hr => ho r (h.oL r off n hr) (hrI r off n hr), fun q hq => ?_⟩
  · rcases h.rf.hl with h6 | ⟨r, h6, h7, h8, h9⟩
    · exact .inl h6
    · exact .inr ⟨r, h6, by rw [h3 r (h.oL r _ _ h6) (by have := hrI r _ _ h6; omega)]; exact h7, h8, List.mem_cons_of_mem _ h9⟩
  · rcases List.mem_cons.1 hq with rfl | hq
    · omega
    · have := h.hi q hq; omega
theorem CcI.rput {z n : Nat} {e' : List (List Int × Int)} (h : CcI most e1 e2 O I nm L bd) (hz : bd ≤ z) (h1 : RefAt O1 I1 5 (.ref z 0 n) most e') (h2 : ∀ q ∈ I1, q < b2) (h3 : ∀ q ∈ I, q ∈ I1) (h4 : ∀ q, q < bd → q ≠ 5 → lk O1 q = lk O q) : CcI most e1 e' O1 I1 nm (.ref z 0 n) b2 := by
  have hc := h.hi _ h.ca.ic
  have hm := h.hi _ h.ca.im
  refine ⟨⟨?_, ?_, h.ca.ring.mono fun j hj => h4 _ (h.hi _ (h.ca.inn j hj)) fun e => h.o5.2.2 j hj e.symm, h.ca.cm, h.ca.cn, h3 _ h.ca.ic, h3 _ h.ca.im, fun j hj => h3 _ (h.ca.inn j hj), h.ca.keys, h.ca.ok, h.ca.room, h.ca.big⟩, h1, h.o5, fun r off n' hr => ?_, h2⟩
  · rw [h4 3 hc (by decide)]; exact h.ca.hc
  · rw [h4 1 hm (by decide)]; exact h.ca.hm
  · cases hr
    exact ⟨by omega, by omega, fun t ht e => by have := h.hi _ (h.ca.inn t ht); omega⟩
end Go.Proofs.YtafikekndefjcaaDoor
