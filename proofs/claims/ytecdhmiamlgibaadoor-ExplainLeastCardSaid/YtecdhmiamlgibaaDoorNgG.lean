/- Nets as lists: validity, evaluation, variables (plain); no condition. -/
import Derived.Test.YtecdhmiamlgibaaDoorCvG
import Derived.Test.YtecdhmiamlgibaaDoorAm20
/- Nt39: Nets as lists: validity, evaluation, variables (plain); no condition. -/
namespace Go.Proofs.YtecdhmiamlgibaaDoor
set_option linter.unusedVariables false
set_option linter.unusedSimpArgs false
set_option linter.unusedSectionVars false
open Go.RowKit
set_option maxRecDepth 100000
abbrev Nd := Int × Int × List Int
def nd0 : Nd := (0, 0, [])
def aNd (x : Nd) : List AV := [.v (.int .i64 x.1), .v (.int .i64 x.2.1), aInts x.2.2]
def aNds (ns : List Nd) : AV := .sl 3 (ns.map fun x => [AV.v (.int .i64 x.1), .v (.int .i64 x.2.1), aInts x.2.2])
def aNet (N : Int) (ns : List Nd) : AV := .agg [.v (.int .i64 N), aNds ns]
def okNd (x : Nd) : Bool := okI x.1 && okI x.2.1 && okInts x.2.2 && decide (x.2.2.length ≤ 20)
def okNs (ns : List Nd) : Bool := decide (ns.length ≤ 200) && ns.all okNd
def formB (x : Nd) (n i : Int) : Bool :=
 x.2.2.all (fun k => decide (0 ≤ k) && decide (k < i)) &&
 (if x.1 = 0 ∨ x.1 = 1 then decide (x.2.1 = 0) && decide (x.2.2.length = 0)
 else if x.1 = 2 then litOk x.2.1 n && decide (x.2.2.length = 0)
 else if x.1 = 3 ∨ x.1 = 4 then decide (x.2.1 = 0) else false)
def validN (N : Int) (ns : List Nd) : Bool :=
 decide (0 ≤ N) && decide (N ≤ 128) && decide (1 ≤ ns.length) && decide (ns.length ≤ 65536) && (List.range ns.length).all fun i => formB (ns.getD i nd0) N i
def scanN {α : Type} (f : Nd → List α → α) (ns : List Nd) : List α := ns.foldl (fun out x => out ++ [f x out]) []
section
variable {α β : Type} (f : Nd → List α → α)
theorem scanN_nil : scanN f [] = [] := rfl
theorem scanN_snoc (ns : List Nd) (x : Nd) : scanN f (ns ++ [x]) = scanN f ns ++ [f x (scanN f ns)] := by
 unfold scanN
 rw [List.foldl_append]; rfl
theorem take_one {ns : List Nd} {k : Nat} (hk : k < ns.length) : ns.take (k + 1) = ns.take k ++ [ns.getD k nd0] := by
 rw [List.take_add_one, List.getElem?_eq_getElem hk]
 simp [List.getD, hk]
theorem scanN_take {ns : List Nd} {k : Nat} (hk : k < ns.length) : scanN f (ns.take (k + 1)) = scanN f (ns.take k) ++ [f (ns.getD k nd0) (scanN f (ns.take k))] := by
 rw [take_one hk, scanN_snoc]
theorem scanN_lenT (ns : List Nd) : ∀ k, k ≤ ns.length → (scanN f (ns.take k)).length = k
 | 0, _ => rfl
 | k + 1, hk => by rw [scanN_take f hk, List.length_append, scanN_lenT ns k (by omega)]; rfl
theorem scanN_len (ns : List Nd) : (scanN f ns).length = ns.length := by
 have := scanN_lenT f ns ns.length (Nat.le_refl _)
 rwa [List.take_length] at this
theorem getD_l {xs ys : List α} {i : Nat} {d : α} (h : i < xs.length) : (xs ++ ys).getD i d = xs.getD i d := by
 simp [List.getD, List.getElem?_append_left h]
theorem getD_r {xs : List α} {y : α} {i : Nat} {d : α} (h : xs.length = i) : (xs ++ [y]).getD i d = y := by
 simp [List.getD, ← h]
theorem scanN_pre (ns : List Nd) (d : α) : ∀ m k, k ≤ m → m ≤ ns.length → ∀ i, i < k → (scanN f (ns.take m)).getD i d = (scanN f (ns.take k)).getD i d
 | 0, k, h1, _, i, hi => by omega
 | m + 1, k, h1, h2, i, hi => by
  by_cases h : k = m + 1
  ·rw [h]
  ·rw [scanN_take f h2, getD_l (by rw [scanN_lenT f ns m (by omega)]; omega)]
   exact scanN_pre ns d m k (by omega) (by omega) i hi
theorem scanN_get (ns : List Nd) (d : α) {i : Nat} (hi : i < ns.length) : (scanN f ns).getD i d = f (ns.getD i nd0) (scanN f (ns.take i)) := by
 have h := scanN_pre f ns d ns.length (i + 1) hi (Nat.le_refl _) i (by omega)
 rw [List.take_length] at h
 rw [h, scanN_take f hi, getD_r (scanN_lenT f ns i (by omega))]
theorem scanN_rel (g : Nd → List β → β) (ns : List Nd) (a0 : α) (b0 : β) (R : Nat → α → β → Prop)
  (h : ∀ i, i < ns.length → (∀ k, k < i → R k ((scanN f (ns.take i)).getD k a0) ((scanN g (ns.take i)).getD k b0)) → R i (f (ns.getD i nd0) (scanN f (ns.take i))) (g (ns.getD i nd0) (scanN g (ns.take i)))) :
  ∀ i, i < ns.length → R i ((scanN f ns).getD i a0) ((scanN g ns).getD i b0) := by
 intro i
 induction i using Nat.strongRecOn with
 | _ i ih =>
  intro hi
  rw [scanN_get f ns a0 hi, scanN_get g ns b0 hi]
  refine h i hi fun k hk => ?_
  have := ih k hk (by omega)
  have e1 := scanN_pre f ns a0 ns.length i (by omega) (Nat.le_refl _) k hk
  have e2 := scanN_pre g ns b0 ns.length i (by omega) (Nat.le_refl _) k hk
  rw [List.take_length] at e1 e2
  rwa [e1, e2] at this
end
def litV (a : BitVec 128) (l : Int) : Bool := if litVar l = 0 then false else (sHas a (litVar l) == decide (0 < l))
def nodeV (a : BitVec 128) (x : Nd) (is : List Bool) : Bool :=
 if x.1 = 1 then true else if x.1 = 2 then litV a x.2.1
 else if x.1 = 3 then x.2.2.all fun k => is.getD k.toNat false
 else if x.1 = 4 then x.2.2.any fun k => is.getD k.toNat false else false
def valsL (a : BitVec 128) (ns : List Nd) : List Bool := scanN (nodeV a) ns
def evalR (ns : List Nd) (a : BitVec 128) : Bool := (valsL a ns).getD (ns.length - 1) false
def evalN (N : Int) (ns : List Nd) (a : BitVec 128) : Bool := validN N ns && evalR ns a
def nodeS (x : Nd) (out : List (BitVec 128)) : BitVec 128 := x.2.2.foldl (fun s k => s ||| out.getD k.toNat 0#128) (sBit (litVar x.2.1))
def varsL (ns : List Nd) : List (BitVec 128) := scanN nodeS ns
def matS (ns : List Nd) : BitVec 128 := (varsL ns).getD (ns.length - 1) 0#128
def aSets (l : List (BitVec 128)) : AV := .sl 2 (l.map fun s => [AV.v (.int .u64 ((lo s).toNat : Int)), .v (.int .u64 ((hi s).toNat : Int))])
@[simp] theorem sets_get {l : List (BitVec 128)} {k : Nat} (h : k < l.length) : (l.map fun s => [AV.v (.int .u64 ((lo s).toNat : Int)), .v (.int .u64 ((hi s).toNat : Int))]).getD k [] = [.v (.int .u64 ((lo (l.getD k 0#128)).toNat : Int)), .v (.int .u64 ((hi (l.getD k 0#128)).toNat : Int))] := by
 simp [List.getD, h]
@[simp ↓ high] theorem d_ids_aSets (l : List (BitVec 128)) : idsLL (l.map fun s => [AV.v (.int .u64 ((lo s).toNat : Int)), .v (.int .u64 ((hi s).toNat : Int))]) = [] := by
 induction l with
 | nil => rfl
 | cons p r ih => simp [idsLL, idsL, AV.ids, ih]
@[simp ↓ high] theorem d_ren_aSets (ρ : Nat → Nat) (l : List (BitVec 128)) : renLL ρ (l.map fun s => [AV.v (.int .u64 ((lo s).toNat : Int)), .v (.int .u64 ((hi s).toNat : Int))]) = l.map fun s => [AV.v (.int .u64 ((lo s).toNat : Int)), .v (.int .u64 ((hi s).toNat : Int))] := renLL_pure ρ _ (d_ids_aSets l)
def accV (x : Nd) (out : List (BitVec 128)) (j : Nat) : BitVec 128 := (x.2.2.take j).foldl (fun s k => s ||| out.getD k.toNat 0#128) (sBit (litVar x.2.1))
theorem accV_succ (x : Nd) (out : List (BitVec 128)) {j : Nat} (hj : j < x.2.2.length) : accV x out (j + 1) = accV x out j ||| out.getD (x.2.2.getD j 0).toNat 0#128 := by
 unfold accV
 rw [List.take_add_one, List.getElem?_eq_getElem hj, List.foldl_append]
 simp [List.getD, hj]
theorem accV_all (x : Nd) (out : List (BitVec 128)) : accV x out x.2.2.length = nodeS x out := by
 unfold accV nodeS; rw [List.take_length]
theorem foldS_has (out : List (BitVec 128)) (v : Int) : ∀ (xs : List Int) (s : BitVec 128), sHas (xs.foldl (fun s k => s ||| out.getD k.toNat 0#128) s) v = (sHas s v || xs.any fun k => sHas (out.getD k.toNat 0#128) v)
 | [], s => by simp
 | k :: r, s => by
  rw [List.foldl_cons, foldS_has out v r, sHas_or, List.any_cons, Bool.or_assoc]
theorem nodeS_has (x : Nd) (out : List (BitVec 128)) (v : Int) : sHas (nodeS x out) v = (sHas (sBit (litVar x.2.1)) v || x.2.2.any fun k => sHas (out.getD k.toNat 0#128) v) := foldS_has _ _ _ _
theorem valid_form {N : Int} {ns : List Nd} (h : validN N ns = true) {i : Nat} (hi : i < ns.length) : formB (ns.getD i nd0) N i = true := by
 unfold validN at h
 simp only [Bool.and_eq_true] at h
 exact List.all_eq_true.1 h.2 i (List.mem_range.2 hi)
theorem form_in {x : Nd} {n i : Int} (h : formB x n i = true) {k : Int} (hk : k ∈ x.2.2) : 0 ≤ k ∧ k < i := by
 unfold formB at h
 rw [Bool.and_eq_true] at h
 have := List.all_eq_true.1 h.1 k hk
 simpa using this
theorem valid_len {N : Int} {ns : List Nd} (h : validN N ns = true) : 0 < ns.length := by
 unfold validN at h
 simp only [Bool.and_eq_true, decide_eq_true_eq] at h
 omega
theorem all_congr {xs : List Int} {p q : Int → Bool} (h : ∀ k ∈ xs, p k = q k) : xs.all p = xs.all q := by
 induction xs with
 | nil => rfl
 | cons a r ih => rw [List.all_cons, List.all_cons, h a (by simp), ih fun k hk => h k (by simp [hk])]
theorem any_congr {xs : List Int} {p q : Int → Bool} (h : ∀ k ∈ xs, p k = q k) : xs.any p = xs.any q := by
 induction xs with
 | nil => rfl
 | cons a r ih => rw [List.any_cons, List.any_cons, h a (by simp), ih fun k hk => h k (by simp [hk])]
theorem vals_dep {N : Int} {ns : List Nd} (h : validN N ns = true) (a b : BitVec 128) : ∀ i, i < ns.length → (∀ v, sHas ((varsL ns).getD i 0#128) v = true → sHas a v = sHas b v) → (valsL a ns).getD i false = (valsL b ns).getD i false := by
 intro i
 induction i using Nat.strongRecOn with
 | _ i ih =>
  intro hi hv
  unfold valsL
  rw [scanN_get _ ns false hi, scanN_get _ ns false hi]
  unfold varsL at hv
  rw [scanN_get _ ns _ hi] at hv
  have hf := valid_form h hi
  generalize ns.getD i nd0 = x at hf hv ⊢
  have hin : ∀ k ∈ x.2.2, (scanN (nodeV a) (ns.take i)).getD k.toNat false = (scanN (nodeV b) (ns.take i)).getD k.toNat false := fun k hk => by
   obtain ⟨k0, k1⟩ := form_in hf hk
   have hlt : k.toNat < i := by omega
   have := ih k.toNat hlt (by omega) fun v hvk => hv v (by
    rw [nodeS_has]
    rw [Bool.or_eq_true, List.any_eq_true]
    refine .inr ⟨k, hk, ?_⟩
    have e := scanN_pre nodeS ns 0#128 ns.length i (by omega) (Nat.le_refl _) k.toNat hlt
    rw [List.take_length] at e
    rw [← e]; exact hvk)
   have e1 := scanN_pre (nodeV a) ns false ns.length i (by omega) (Nat.le_refl _) k.toNat hlt
   have e2 := scanN_pre (nodeV b) ns false ns.length i (by omega) (Nat.le_refl _) k.toNat hlt
   rw [List.take_length] at e1 e2
   rw [← e1, ← e2]; exact this
  unfold nodeV
  split
  ·rfl
  ·split
   ·unfold litV
    split
    ·rfl
    ·rename_i h0
     rw [hv (litVar x.2.1) (by
      rw [nodeS_has, Bool.or_eq_true, sHas_bit]
      left
      have h1 := litVar_range x.2.1
      exact decide_eq_true ⟨rfl, by omega, by omega⟩)]
   ·split
    ·exact all_congr hin
    ·split
     ·exact any_congr hin
     ·rfl
theorem eval_dep {N : Int} {ns : List Nd} (h : validN N ns = true) {a b : BitVec 128} (hv : ∀ v, sHas (matS ns) v = true → sHas a v = sHas b v) : evalR ns a = evalR ns b :=
 vals_dep h a b _ (by have := valid_len h; omega) hv
end Go.Proofs.YtecdhmiamlgibaaDoor
/- Wd39: The table of a net, 64 results at once: each bit is one result (plain); no condition. -/
namespace Go.Proofs.YtecdhmiamlgibaaDoor
set_option linter.unusedVariables false
set_option linter.unusedSimpArgs false
set_option linter.unusedSectionVars false
open Go.RowKit
set_option maxRecDepth 100000
def maskW (p : Nat) : BitVec 64 := [0xAAAAAAAAAAAAAAAA#64, 0xCCCCCCCCCCCCCCCC#64, 0xF0F0F0F0F0F0F0F0#64, 0xFF00FF00FF00FF00#64, 0xFFFF0000FFFF0000#64, 0xFFFFFFFF00000000#64].getD p 0#64
def wordP (p frm : Nat) : BitVec 64 := if p < 6 then maskW p else if frm.testBit p then BitVec.allOnes 64 else 0#64
theorem mask_bit : ∀ p, p < 6 → ∀ k, k < 64 → (maskW p).getLsbD k = k.testBit p := by decide +kernel
theorem testBit_lo {frm k p : Nat} (hf : frm % 64 = 0) (hk : k < 64) : (frm + k).testBit p = if p < 6 then k.testBit p else frm.testBit p := by
 obtain ⟨q, rfl⟩ : ∃ q, frm = 2 ^ 6 * q := ⟨frm / 64, by omega⟩
 rw [Nat.testBit_two_pow_mul_add _ (by omega)]
 split
 ·rfl
 ·rw [Nat.testBit_two_pow_mul, decide_eq_true (by omega), Bool.true_and]
theorem wordP_bit {p frm k : Nat} (hf : frm % 64 = 0) (hk : k < 64) : (wordP p frm).getLsbD k = (frm + k).testBit p := by
 rw [testBit_lo hf hk]
 unfold wordP
 split
 ·rename_i hp; exact mask_bit p hp k hk
 ·split
  ·rename_i h; rw [h, BitVec.getLsbD_allOnes, decide_eq_true hk]
  ·rename_i h; rw [Bool.not_eq_true] at h; rw [h, BitVec.getLsbD_zero]
def posV : List Int → Int → Option Nat
 | [], _ => none
 | v :: r, u => if v = u then some 0 else (posV r u).map (· + 1)
def ofW (vs : List Int) (frm : Nat) (v : Int) : BitVec 64 := match posV vs v with
 | some p => wordP p frm
 | none => 0#64
def setX : List Int → Nat → BitVec 128
 | [], _ => 0#128
 | v :: r, x => if x % 2 = 1 then sBit v ||| setX r (x / 2) else setX r (x / 2)
def okVs (vs : List Int) : Prop := vs.Nodup ∧ ∀ v ∈ vs, 1 ≤ v ∧ v ≤ 128
theorem posV_none : ∀ {vs : List Int} {u : Int}, u ∉ vs → posV vs u = none
 | [], _, _ => rfl
 | v :: r, u, h => by
  simp only [List.mem_cons, not_or] at h
  unfold posV
  rw [if_neg (fun e => h.1 e.symm), posV_none h.2]; rfl
theorem setX_has : ∀ {vs : List Int}, okVs vs → ∀ (x : Nat) (u : Int), sHas (setX vs x) u = match posV vs u with
  | some p => x.testBit p
  | none => false
 | [], _, x, u => by simp [setX, posV, sHas]
 | v :: r, h, x, u => by
  have hr : okVs r := ⟨(List.nodup_cons.1 h.1).2, fun w hw => h.2 w (by simp [hw])⟩
  have hv := h.2 v (by simp)
  have ih := setX_has hr (x / 2) u
  unfold setX posV
  by_cases hvu : v = u
  ·subst hvu
   rw [if_pos rfl]
   have hn : sHas (setX r (x / 2)) v = false := by rw [ih, posV_none (List.nodup_cons.1 h.1).1]
   split
   ·rename_i h1
    rw [sHas_or, sHas_bit, hn]
    simp [Nat.testBit_zero, h1, hv]
   ·rename_i h1
    rw [hn]
    simp [Nat.testBit_zero, h1]
  ·rw [if_neg hvu]
   have e : (match (posV r u).map (· + 1) with | some p => x.testBit p | none => false) = (match posV r u with | some p => (x / 2).testBit p | none => false) := by
    cases posV r u with
    | none => rfl
    | some p => simp [Nat.testBit_succ]
   rw [e, ← ih]
   split
   ·rw [sHas_or, sHas_bit, decide_eq_false (fun e => hvu e.1.symm), Bool.false_or]
   ·rfl
def nodeI (of : Int → BitVec 64) (x : Nd) : BitVec 64 :=
 if x.1 = 1 ∨ x.1 = 3 then BitVec.allOnes 64 else if x.1 = 2 then (if x.2.1 < 0 then ~~~ of (-x.2.1) else of x.2.1) else 0#64
def nodeW (of : Int → BitVec 64) (x : Nd) (w : List (BitVec 64)) : BitVec 64 :=
 x.2.2.foldl (fun u k => if x.1 = 3 then u &&& w.getD k.toNat 0#64 else u ||| w.getD k.toNat 0#64) (nodeI of x)
def wordsL (of : Int → BitVec 64) (ns : List Nd) : List (BitVec 64) := scanN (nodeW of) ns
def wordR (vs : List Int) (ns : List Nd) (frm : Nat) : BitVec 64 := (wordsL (ofW vs frm) ns).getD (ns.length - 1) 0#64
theorem fold_and (w : List (BitVec 64)) (j : Nat) : ∀ (xs : List Int) (u : BitVec 64), (xs.foldl (fun u k => u &&& w.getD k.toNat 0#64) u).getLsbD j = (u.getLsbD j && xs.all fun k => (w.getD k.toNat 0#64).getLsbD j)
 | [], u => by simp
 | k :: r, u => by rw [List.foldl_cons, fold_and w j r, BitVec.getLsbD_and, List.all_cons, Bool.and_assoc]
theorem fold_or (w : List (BitVec 64)) (j : Nat) : ∀ (xs : List Int) (u : BitVec 64), (xs.foldl (fun u k => u ||| w.getD k.toNat 0#64) u).getLsbD j = (u.getLsbD j || xs.any fun k => (w.getD k.toNat 0#64).getLsbD j)
 | [], u => by simp
 | k :: r, u => by rw [List.foldl_cons, fold_or w j r, BitVec.getLsbD_or, List.any_cons, Bool.or_assoc]
theorem litOk_abs {l n : Int} (h : litOk l n = true) : litVar l = (if l < 0 then -l else l) ∧ litVar l ≠ 0 := by
 unfold litOk litVar at h
 unfold litVar
 rw [Bool.and_eq_true, decide_eq_true_eq, decide_eq_true_eq] at h
 split at h
 ·rw [if_pos (by assumption), if_neg (by omega)]; omega
 ·split at h
  ·rw [if_neg (by assumption), if_pos (by assumption), if_pos (by omega)]; omega
  ·omega
theorem word_bits {N : Int} {ns : List Nd} (h : validN N ns = true) {vs : List Int} (hvs : okVs vs) {frm j : Nat} (hf : frm % 64 = 0) (hj : j < 64) : ∀ i, i < ns.length → ((wordsL (ofW vs frm) ns).getD i 0#64).getLsbD j = (valsL (setX vs (frm + j)) ns).getD i false := by
 refine scanN_rel (nodeW (ofW vs frm)) (nodeV (setX vs (frm + j))) ns 0#64 false (fun _ u b => u.getLsbD j = b) fun i hi ih => ?_
 have hfm := valid_form h hi
 generalize ns.getD i nd0 = x at hfm ⊢
 generalize scanN (nodeW (ofW vs frm)) (ns.take i) = w at ih ⊢
 generalize scanN (nodeV (setX vs (frm + j))) (ns.take i) = is at ih ⊢
 have hin : ∀ k ∈ x.2.2, (w.getD k.toNat 0#64).getLsbD j = is.getD k.toNat false := fun k hk => ih k.toNat (by have := form_in hfm hk; omega)
 have hlit : litOk x.2.1 N = true → (if x.2.1 < 0 then ~~~ ofW vs frm (-x.2.1) else ofW vs frm x.2.1).getLsbD j = litV (setX vs (frm + j)) x.2.1 := fun hok => by
  obtain ⟨e1, e2⟩ := litOk_abs hok
  have hof : ∀ u, (ofW vs frm u).getLsbD j = sHas (setX vs (frm + j)) u := fun u => by
   rw [setX_has hvs]
   unfold ofW
   cases posV vs u with
   | none => exact BitVec.getLsbD_zero
   | some p => exact wordP_bit hf hj
  unfold litV
  rw [if_neg e2]
  by_cases hl : x.2.1 < 0
  ·rw [if_pos hl] at e1 ⊢
   rw [BitVec.getLsbD_not, decide_eq_true hj, Bool.true_and, hof, e1, decide_eq_false (show ¬ 0 < x.2.1 by omega)]
   cases sHas (setX vs (frm + j)) (-x.2.1) <;> rfl
  ·rw [if_neg hl] at e1 ⊢
   rw [hof, e1, decide_eq_true (show 0 < x.2.1 by omega)]
   cases sHas (setX vs (frm + j)) x.2.1 <;> rfl
 unfold formB at hfm
 rw [Bool.and_eq_true] at hfm
 obtain ⟨_, hk⟩ := hfm
 unfold nodeW nodeI nodeV
 by_cases k3 : x.1 = 3
 ·simp only [k3, if_true, or_true, show ¬ (3 : Int) = 1 by decide, show ¬ (3 : Int) = 2 by decide, if_false]
  rw [fold_and, BitVec.getLsbD_allOnes, decide_eq_true hj, Bool.true_and]
  exact all_congr hin
 ·simp only [k3, if_false, or_false]
  rw [fold_or]
  by_cases k0 : x.1 = 0 ∨ x.1 = 1
  ·rw [if_pos k0, Bool.and_eq_true, decide_eq_true_eq, decide_eq_true_eq] at hk
   rw [List.length_eq_zero_iff.1 hk.2]
   rcases k0 with k0 | k0
   ·simp [k0]
   ·simp only [k0, if_true, List.any_nil, Bool.or_false]
    rw [BitVec.getLsbD_allOnes, decide_eq_true hj]
  ·rw [if_neg k0] at hk
   by_cases k2 : x.1 = 2
   ·rw [if_pos k2, Bool.and_eq_true, decide_eq_true_eq] at hk
    rw [List.length_eq_zero_iff.1 hk.2]
    simp only [k2, show ¬ (2 : Int) = 1 by decide, if_false, if_true, List.any_nil, Bool.or_false]
    exact hlit hk.1
   ·rw [if_neg k2] at hk
    have k4 : x.1 = 4 := by
     split at hk
     ·omega
     ·cases hk
    simp only [k4, show ¬ (4 : Int) = 1 by decide, show ¬ (4 : Int) = 2 by decide, if_false, if_true, BitVec.getLsbD_zero, Bool.false_or]
    exact any_congr hin
theorem wordR_bit {N : Int} {ns : List Nd} (h : validN N ns = true) {vs : List Int} (hvs : okVs vs) {frm j : Nat} (hf : frm % 64 = 0) (hj : j < 64) : (wordR vs ns frm).getLsbD j = evalR ns (setX vs (frm + j)) :=
 word_bits h hvs hf hj _ (by have := valid_len h; omega)
end Go.Proofs.YtecdhmiamlgibaaDoor
/- Ix39: Indices of assignments, and whether changes at some places change the result (plain); no condition. -/
namespace Go.Proofs.YtecdhmiamlgibaaDoor
set_option linter.unusedVariables false
set_option linter.unusedSimpArgs false
set_option linter.unusedSectionVars false
open Go.RowKit
set_option maxRecDepth 100000
def onL (vs : List Int) (ns : List Nd) : List Bool := (List.range (2 ^ vs.length)).map fun x => evalR ns (setX vs x)
def idxN : List Int → BitVec 128 → Nat
 | [], _ => 0
 | v :: r, a => (if sHas a v then 1 else 0) + 2 * idxN r a
theorem idxN_lt : ∀ (vs : List Int) (a : BitVec 128), idxN vs a < 2 ^ vs.length
 | [], _ => by simp [idxN]
 | v :: r, a => by
  have := idxN_lt r a
  unfold idxN
  rw [List.length_cons, Nat.pow_succ]
  split <;> omega
theorem idxN_bit : ∀ {vs : List Int} {a : BitVec 128} {v : Int} {p : Nat}, posV vs v = some p → (idxN vs a).testBit p = sHas a v
 | [], a, v, p, h => by cases h
 | u :: r, a, v, p, h => by
  unfold posV at h
  unfold idxN
  split at h
  ·rename_i e
   cases h; subst e
   rw [Nat.testBit_zero]
   cases sHas a u <;> simp <;> omega
  ·cases hp : posV r v with
   | none => rw [hp] at h; cases h
   | some q =>
    rw [hp] at h
    cases h
    rw [Nat.testBit_succ, ← idxN_bit hp]
    congr 1
    split <;> omega
theorem posV_some : ∀ {vs : List Int} {v : Int}, v ∈ vs → ∃ p, posV vs v = some p ∧ p < vs.length ∧ vs.getD p 0 = v
 | [], v, h => by cases h
 | u :: r, v, h => by
  unfold posV
  by_cases e : u = v
  ·exact ⟨0, by rw [if_pos e], by simp, by simp [e]⟩
  ·rw [if_neg e]
   obtain ⟨p, h1, h2, h3⟩ := posV_some (vs := r) (v := v) ((List.mem_cons.1 h).resolve_left fun h => e h.symm)
   exact ⟨p + 1, by rw [h1]; rfl, by simp; omega, by simpa using h3⟩
theorem posV_get : ∀ {vs : List Int}, vs.Nodup → ∀ {p : Nat}, p < vs.length → posV vs (vs.getD p 0) = some p
 | [], _, p, h => by cases h
 | u :: r, hn, 0, h => by unfold posV; rw [if_pos (by simp)]
 | u :: r, hn, p + 1, h => by
  have h2 : p < r.length := by simpa using h
  have e : (u :: r).getD (p + 1) 0 = r.getD p 0 := by simp
  unfold posV
  rw [e, if_neg, posV_get (List.nodup_cons.1 hn).2 h2]; rfl
  intro hu
  apply (List.nodup_cons.1 hn).1
  rw [hu]; simp [List.getD, h2]
theorem setX_idx {vs : List Int} (h : okVs vs) (a : BitVec 128) (u : Int) : sHas (setX vs (idxN vs a)) u = (decide (u ∈ vs) && sHas a u) := by
 rw [setX_has h]
 by_cases hu : u ∈ vs
 ·obtain ⟨p, h1, _⟩ := posV_some hu
  rw [h1]
  show (idxN vs a).testBit p = _
  rw [idxN_bit h1, decide_eq_true hu, Bool.true_and]
 ·rw [posV_none hu, decide_eq_false hu]; rfl
theorem eval_on {N : Int} {ns : List Nd} (h : validN N ns = true) {vs : List Int} (hvs : okVs vs) (hm : ∀ v, sHas (matS ns) v = true → v ∈ vs) (a : BitVec 128) : evalR ns a = evalR ns (setX vs (idxN vs a)) :=
 eval_dep h fun v hv => by rw [setX_idx hvs, decide_eq_true (hm v hv), Bool.true_and]
def upK (f : Nat → Bool) (at0 : Nat) : Nat → Nat → Bool
 | 0, x => f (at0 ^^^ x) != f at0
 | k + 1, x => upK f at0 k x || (x.testBit k && upK f at0 k (x ^^^ 2 ^ k))
theorem upK_iff (f : Nat → Bool) (at0 : Nat) : ∀ k x, upK f at0 k x = true ↔ ∃ d, (∀ p, d.testBit p = true → x.testBit p = true) ∧ (∀ p, k ≤ p → d.testBit p = x.testBit p) ∧ f (at0 ^^^ d) ≠ f at0
 | 0, x => by
  unfold upK
  rw [bne_iff_ne]
  constructor
  ·intro h; exact ⟨x, fun _ h => h, fun _ _ => rfl, h⟩
  ·rintro ⟨d, _, h2, h3⟩
   have : d = x := Nat.eq_of_testBit_eq fun p => h2 p (Nat.zero_le _)
   rwa [← this]
 | k + 1, x => by
  unfold upK
  rw [Bool.or_eq_true, Bool.and_eq_true, upK_iff f at0 k x, upK_iff f at0 k (x ^^^ 2 ^ k)]
  constructor
  ·rintro (⟨d, h1, h2, h3⟩ | ⟨hk, d, h1, h2, h3⟩)
   ·exact ⟨d, h1, fun p hp => h2 p (by omega), h3⟩
   ·refine ⟨d, fun p hp => ?_, fun p hp => ?_, h3⟩
    ·have := h1 p hp
     rw [Nat.testBit_xor, Nat.testBit_two_pow] at this
     by_cases e : k = p
     ·rw [← e]; exact hk
     ·rwa [decide_eq_false e, Bool.xor_false] at this
    ·rw [h2 p (by omega), Nat.testBit_xor, Nat.testBit_two_pow, decide_eq_false (by omega), Bool.xor_false]
  ·rintro ⟨d, h1, h2, h3⟩
   by_cases e : d.testBit k = x.testBit k
   ·refine .inl ⟨d, h1, fun p hp => ?_, h3⟩
    by_cases e2 : p = k
    ·rw [e2]; exact e
    ·exact h2 p (by omega)
   ·have hd : d.testBit k = false := by
     cases hh : d.testBit k with
     | false => rfl
     | true => exact absurd (hh.trans (h1 k hh).symm) e
    have hx : x.testBit k = true := by
     cases hh : x.testBit k with
     | true => rfl
     | false => exact absurd (hd.trans hh.symm) e
    refine .inr ⟨hx, d, fun p hp => ?_, fun p hp => ?_, h3⟩
    ·rw [Nat.testBit_xor, Nat.testBit_two_pow]
     by_cases e2 : k = p
     ·subst e2; rw [hd] at hp; cases hp
     ·rw [decide_eq_false e2, Bool.xor_false]; exact h1 p hp
    ·rw [Nat.testBit_xor, Nat.testBit_two_pow]
     by_cases e2 : k = p
     ·subst e2; rw [hd, hx]; simp
     ·rw [decide_eq_false e2, Bool.xor_false]; exact h2 p (by omega)
def chgB (f : Nat → Bool) (n at0 m : Nat) : Bool := upK f at0 n m
theorem chg_iff {f : Nat → Bool} {n at0 m : Nat} (hm : m < 2 ^ n) : chgB f n at0 m = true ↔ ∃ d, (∀ p, d.testBit p = true → m.testBit p = true) ∧ f (at0 ^^^ d) ≠ f at0 := by
 unfold chgB
 rw [upK_iff]
 constructor
 ·rintro ⟨d, h1, _, h3⟩; exact ⟨d, h1, h3⟩
 ·rintro ⟨d, h1, h3⟩
  refine ⟨d, h1, fun p hp => ?_, h3⟩
  have hx : m.testBit p = false := Nat.testBit_lt_two_pow (Nat.lt_of_lt_of_le hm (Nat.pow_le_pow_right (by omega) hp))
  cases hh : d.testBit p with
  | false => exact hx.symm
  | true => exact absurd (h1 p hh) (by simp [hx])
theorem chg_mono {f : Nat → Bool} {n at0 m m' : Nat} (hm : m < 2 ^ n) (hm' : m' < 2 ^ n) (h : ∀ p, m.testBit p = true → m'.testBit p = true) (hc : chgB f n at0 m = true) : chgB f n at0 m' = true := by
 rw [chg_iff hm] at hc
 rw [chg_iff hm']
 obtain ⟨d, h1, h2⟩ := hc
 exact ⟨d, fun p hp => h p (h1 p hp), h2⟩
theorem chg_zero (f : Nat → Bool) (n at0 : Nat) : chgB f n at0 0 = false := by
 cases h : chgB f n at0 0 with
 | false => rfl
 | true =>
  rw [chg_iff (Nat.two_pow_pos n)] at h
  obtain ⟨d, h1, h2⟩ := h
  have : d = 0 := Nat.eq_of_testBit_eq fun p => by
   cases hh : d.testBit p with
   | false => simp
   | true => have := h1 p hh; simp at this
  subst this
  simp at h2
end Go.Proofs.YtecdhmiamlgibaaDoor
/- Rz39: Reasons as sets of places (plain); no condition. -/
namespace Go.Proofs.YtecdhmiamlgibaaDoor
set_option linter.unusedVariables false
set_option linter.unusedSimpArgs false
set_option linter.unusedSectionVars false
open Go.RowKit
set_option maxRecDepth 100000
def cmpl (n P : Nat) : Nat := (2 ^ n - 1) ^^^ P
theorem cmpl_bit (n P p : Nat) : (cmpl n P).testBit p = (decide (p < n) ^^ P.testBit p) := by
 unfold cmpl; rw [Nat.testBit_xor, Nat.testBit_two_pow_sub_one]
theorem cmpl_lt {n P : Nat} (h : P < 2 ^ n) : cmpl n P < 2 ^ n := Nat.xor_lt_two_pow (by have := Nat.two_pow_pos n; omega) h
theorem bit_hi {n P p : Nat} (h : P < 2 ^ n) (hp : P.testBit p = true) : p < n := by
 by_cases e : p < n
 ·exact e
 ·have := Nat.testBit_lt_two_pow (Nat.lt_of_lt_of_le h (Nat.pow_le_pow_right (by omega) (Nat.le_of_not_lt e)) : P < 2 ^ p)
  rw [this] at hp; cases hp
theorem or_lt {n x k : Nat} (h : x < 2 ^ n) (hk : k < n) : x ||| 2 ^ k < 2 ^ n := Nat.or_lt_two_pow h (Nat.pow_lt_pow_right (by omega) hk)
def leastB (f : Nat → Bool) (n at0 P : Nat) : Bool := !chgB f n at0 (cmpl n P) && (List.range n).all fun k => !P.testBit k || chgB f n at0 (cmpl n P ||| 2 ^ k)
theorem least_no {f : Nat → Bool} {n at0 P : Nat} (h : leastB f n at0 P = true) : chgB f n at0 (cmpl n P) = false := by
 unfold leastB at h
 rw [Bool.and_eq_true, Bool.not_eq_true'] at h
 exact h.1
theorem least_bit {f : Nat → Bool} {n at0 P k : Nat} (hP : P < 2 ^ n) (h : leastB f n at0 P = true) (hk : P.testBit k = true) : chgB f n at0 (cmpl n P ||| 2 ^ k) = true := by
 unfold leastB at h
 rw [Bool.and_eq_true] at h
 have := List.all_eq_true.1 h.2 k (List.mem_range.2 (bit_hi hP hk))
 rw [hk] at this
 simpa using this
theorem cmpl_or {n P k : Nat} (hP : P < 2 ^ n) (hk : P.testBit k = true) : cmpl n P ||| 2 ^ k = cmpl n (P ^^^ 2 ^ k) := by
 apply Nat.eq_of_testBit_eq
 intro p
 rw [Nat.testBit_or, cmpl_bit, cmpl_bit, Nat.testBit_xor, Nat.testBit_two_pow]
 by_cases e : k = p
 ·subst e
  rw [hk, decide_eq_true (bit_hi hP hk), decide_eq_true rfl]; rfl
 ·rw [decide_eq_false e, Bool.or_false, Bool.xor_false]
theorem xor_lt_self {P k : Nat} (hk : P.testBit k = true) : P ^^^ 2 ^ k < P := by
 have e : P ^^^ 2 ^ k = P &&& (P ^^^ 2 ^ k) := by
  apply Nat.eq_of_testBit_eq
  intro p
  rw [Nat.testBit_and, Nat.testBit_xor, Nat.testBit_two_pow]
  by_cases e : k = p
  ·subst e; rw [hk, decide_eq_true rfl]; rfl
  ·rw [decide_eq_false e, Bool.xor_false, Bool.and_self]
 have h1 : P ^^^ 2 ^ k ≤ P := by rw [e]; exact Nat.and_le_left
 have h2 : P ^^^ 2 ^ k ≠ P := fun h => by
  have := congrArg (fun x => x.testBit k) h
  simp only [Nat.testBit_xor, Nat.testBit_two_pow, decide_true, hk] at this
  cases this
 omega
theorem least_ex {f : Nat → Bool} {n at0 : Nat} : ∀ P, P < 2 ^ n → chgB f n at0 (cmpl n P) = false → ∃ Q, Q < 2 ^ n ∧ leastB f n at0 Q = true ∧ ∀ p, Q.testBit p = true → P.testBit p = true := by
 intro P
 induction P using Nat.strongRecOn with
 | _ P ih =>
  intro hP hc
  by_cases h : leastB f n at0 P = true
  ·exact ⟨P, hP, h, fun _ h => h⟩
  ·have : ∃ k, k < n ∧ P.testBit k = true ∧ chgB f n at0 (cmpl n P ||| 2 ^ k) = false := by
    unfold leastB at h
    rw [hc, Bool.not_false, Bool.true_and, Bool.not_eq_true, List.all_eq_false] at h
    obtain ⟨k, hk, h2⟩ := h
    rw [Bool.or_eq_true, not_or] at h2
    exact ⟨k, List.mem_range.1 hk, by simpa using h2.1, by simpa using h2.2⟩
   obtain ⟨k, hk, hb, hc2⟩ := this
   rw [cmpl_or hP hb] at hc2
   have hlt := xor_lt_self hb
   obtain ⟨Q, h1, h2, h3⟩ := ih _ hlt (by omega) hc2
   refine ⟨Q, h1, h2, fun p hp => ?_⟩
   have := h3 p hp
   rw [Nat.testBit_xor, Nat.testBit_two_pow] at this
   by_cases e : k = p
   ·rw [← e]; exact hb
   ·rwa [decide_eq_false e, Bool.xor_false] at this
theorem least_anti {f : Nat → Bool} {n at0 P Q : Nat} (hP : P < 2 ^ n) (hQ : Q < 2 ^ n) (h1 : leastB f n at0 P = true) (h2 : leastB f n at0 Q = true) (h : ∀ p, P.testBit p = true → Q.testBit p = true) : P = Q := by
 apply Nat.eq_of_testBit_eq
 intro k
 cases hq : Q.testBit k with
 | false =>
  cases hp : P.testBit k with
  | false => rfl
  | true => rw [h k hp] at hq; cases hq
 | true =>
  cases hp : P.testBit k with
  | true => rfl
  | false =>
   have hk := bit_hi hQ hq
   have := chg_mono (or_lt (cmpl_lt hQ) hk) (cmpl_lt hP) (fun p hp2 => ?_) (least_bit hQ h2 hq)
   ·rw [least_no h1] at this; cases this
   ·rw [Nat.testBit_or, cmpl_bit, Nat.testBit_two_pow] at hp2
    rw [cmpl_bit]
    by_cases e : k = p
    ·subst e
     rw [hp, decide_eq_true hk]; rfl
    ·rw [decide_eq_false e, Bool.or_false] at hp2
     by_cases hpn : p < n
     ·rw [decide_eq_true hpn] at hp2 ⊢
      cases hpp : P.testBit p with
      | false => rfl
      | true => rw [h p hpp] at hp2; cases hp2
     ·rw [decide_eq_false hpn] at hp2
      have : Q.testBit p = true := by simpa using hp2
      exact absurd (bit_hi hQ this) hpn
theorem need_in {f : Nat → Bool} {n at0 P k : Nat} (hP : P < 2 ^ n) (h : leastB f n at0 P = true) (hk : k < n) (hn : f (at0 ^^^ 2 ^ k) ≠ f at0) : P.testBit k = true := by
 cases hp : P.testBit k with
 | true => rfl
 | false =>
  have := (chg_iff (f := f) (at0 := at0) (cmpl_lt hP)).2 ⟨2 ^ k, fun p h2 => ?_, hn⟩
  ·rw [least_no h] at this; cases this
  ·rw [Nat.testBit_two_pow, decide_eq_true_eq] at h2
   subst h2
   rw [cmpl_bit, hp, decide_eq_true hk]; rfl
theorem free_iff {f : Nat → Bool} {n at0 m : Nat} (hm : m < 2 ^ n) : (∃ P, P < 2 ^ n ∧ leastB f n at0 P = true ∧ ∀ p, P.testBit p = true → m.testBit p = false) ↔ chgB f n at0 m = false := by
 constructor
 ·rintro ⟨P, hP, h1, h2⟩
  cases hc : chgB f n at0 m with
  | false => rfl
  | true =>
   have := chg_mono hm (cmpl_lt hP) (fun p hp => ?_) hc
   ·rw [least_no h1] at this; cases this
   ·rw [cmpl_bit, decide_eq_true (bit_hi hm hp)]
    cases hpp : P.testBit p with
    | false => rfl
    | true => rw [h2 p hpp] at hp; cases hp
 ·intro hc
  have e : cmpl n (cmpl n m) = m := by
   unfold cmpl; rw [← Nat.xor_assoc, Nat.xor_self, Nat.zero_xor]
  obtain ⟨Q, h1, h2, h3⟩ := least_ex (f := f) (at0 := at0) (cmpl n m) (cmpl_lt hm) (by rw [e]; exact hc)
  refine ⟨Q, h1, h2, fun p hp => ?_⟩
  have := h3 p hp
  rw [cmpl_bit, decide_eq_true (bit_hi h1 hp)] at this
  simpa using this
def reasonsP (f : Nat → Bool) (n at0 : Nat) : List Nat := (List.range (2 ^ n)).filter (leastB f n at0)
def termL : List Int → Nat → Nat → List Int
 | [], _, _ => []
 | v :: r, at0, P => if P % 2 = 1 then (if at0 % 2 = 1 then v else -v) :: termL r (at0 / 2) (P / 2) else termL r (at0 / 2) (P / 2)
theorem reasonsP_mem {f : Nat → Bool} {n at0 P : Nat} : P ∈ reasonsP f n at0 ↔ P < 2 ^ n ∧ leastB f n at0 P = true := by
 unfold reasonsP; rw [List.mem_filter, List.mem_range]
theorem reasonsP_nodup (f : Nat → Bool) (n at0 : Nat) : (reasonsP f n at0).Nodup := List.Pairwise.filter _ List.nodup_range
end Go.Proofs.YtecdhmiamlgibaaDoor
