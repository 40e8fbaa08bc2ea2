/- Nets as lists: validity, evaluation, variables (plain); no condition. -/
import Derived.Test.YtllkogdgmmcfgaaDoorCvG
import Derived.Test.YtllkogdgmmcfgaaDoorAm20
/- Nt39: Nets as lists: validity, evaluation, variables (plain); no condition. -/
namespace Go.Proofs.YtllkogdgmmcfgaaDoor
set_option linter.unusedVariables false
set_option linter.unusedSimpArgs false
set_option linter.unusedSectionVars false
open Go.RowKit
set_option maxRecDepth 100000
abbrev Nd := Int × Int × List Int
def nd0 : Nd := (0, 0, [])
def aNd (x : Nd) : List AV := [.v (.int .i64 x.1), .v (.int .i64 x.2.1), aInts x.2.2]
def aNds (ns : List Nd) : AV := .sl 3 (ns.map fun x => [AV.v (.int .i64 x.1), .v (.int .i64 x.2.1), aInts x.2.2])
def aNet (N : Int) (ns : List Nd) : AV := .agg [.v (.int .i64 N), aNds ns]
def okNd (x : Nd) : Bool := okI x.1 && okI x.2.1 && okInts x.2.2 && decide (x.2.2.length ≤ 400)
def okNs (ns : List Nd) : Bool := decide (ns.length ≤ 200) && ns.all okNd
def formB (x : Nd) (n i : Int) : Bool :=
 x.2.2.all (fun k => decide (0 ≤ k) && decide (k < i)) &&
 (if x.1 = 0 ∨ x.1 = 1 then decide (x.2.1 = 0) && decide (x.2.2.length = 0)
 else if x.1 = 2 then litOk x.2.1 n && decide (x.2.2.length = 0)
 else if x.1 = 3 ∨ x.1 = 4 then decide (x.2.1 = 0) else false)
def validN (N : Int) (ns : List Nd) : Bool :=
 decide (0 ≤ N) && decide (N ≤ 128) && decide (1 ≤ ns.length) && decide (ns.length ≤ 65536) && (List.range ns.length).all fun i => formB (ns.getD i nd0) N i
def scanN {α : Type} (f : Nd → List α → α) (ns : List Nd) : List α := ns.foldl (fun out x => out ++ [f x out]) []
section
variable {α β : Type} (f : Nd → List α → α)
theorem scanN_nil : scanN f [] = [] := rfl
theorem scanN_snoc (ns : List Nd) (x : Nd) : scanN f (ns ++ [x]) = scanN f ns ++ [f x (scanN f ns)] := by
 unfold scanN
 rw [List.foldl_append]; rfl
theorem take_one {ns : List Nd} {k : Nat} (hk : k < ns.length) : ns.take (k + 1) = ns.take k ++ [ns.getD k nd0] := by
 rw [List.take_add_one, List.getElem?_eq_getElem hk]
 simp [List.getD, hk]
theorem scanN_take {ns : List Nd} {k : Nat} (hk : k < ns.length) : scanN f (ns.take (k + 1)) = scanN f (ns.take k) ++ [f (ns.getD k nd0) (scanN f (ns.take k))] := by
 rw [take_one hk, scanN_snoc]
theorem scanN_lenT (ns : List Nd) : ∀ k, k ≤ ns.length → (scanN f (ns.take k)).length = k
 | 0, _ => rfl
 | k + 1, hk => by rw [scanN_take f hk, List.length_append, scanN_lenT ns k (by omega)]; rfl
theorem scanN_len (ns : List Nd) : (scanN f ns).length = ns.length := by
 have := scanN_lenT f ns ns.length (Nat.le_refl _)
 rwa [List.take_length] at this
theorem getD_l {xs ys : List α} {i : Nat} {d : α} (h : i < xs.length) : (xs ++ ys).getD i d = xs.getD i d := by
 simp [List.getD, List.getElem?_append_left h]
theorem getD_r {xs : List α} {y : α} {i : Nat} {d : α} (h : xs.length = i) : (xs ++ [y]).getD i d = y := by
 simp [List.getD, ← h]
theorem scanN_pre (ns : List Nd) (d : α) : ∀ m k, k ≤ m → m ≤ ns.length → ∀ i, i < k → (scanN f (ns.take m)).getD i d = (scanN f (ns.take k)).getD i d
 | 0, k, h1, _, i, hi => by omega
 | m + 1, k, h1, h2, i, hi => by
  by_cases h : k = m + 1
  ·rw [h]
  ·rw [scanN_take f h2, getD_l (by rw [scanN_lenT f ns m (by omega)]; omega)]
   exact scanN_pre ns d m k (by omega) (by omega) i hi
theorem scanN_get (ns : List Nd) (d : α) {i : Nat} (hi : i < ns.length) : (scanN f ns).getD i d = f (ns.getD i nd0) (scanN f (ns.take i)) := by
 have h := scanN_pre f ns d ns.length (i + 1) hi (Nat.le_refl _) i (by omega)
 rw [List.take_length] at h
 rw [h, scanN_take f hi, getD_r (scanN_lenT f ns i (by omega))]
theorem scanN_rel (g : Nd → List β → β) (ns : List Nd) (a0 : α) (b0 : β) (R : Nat → α → β → Prop)
  (h : ∀ i, i < ns.length → (∀ k, k < i → R k ((scanN f (ns.take i)).getD k a0) ((scanN g (ns.take i)).getD k b0)) → R i (f (ns.getD i nd0) (scanN f (ns.take i))) (g (ns.getD i nd0) (scanN g (ns.take i)))) :
  ∀ i, i < ns.length → R i ((scanN f ns).getD i a0) ((scanN g ns).getD i b0) := by
 intro i
 induction i using Nat.strongRecOn with
 | _ i ih =>
  intro hi
  rw [scanN_get f ns a0 hi, scanN_get g ns b0 hi]
  refine h i hi fun k hk => ?_
  have := ih k hk (by omega)
  have e1 := scanN_pre f ns a0 ns.length i (by omega) (Nat.le_refl _) k hk
  have e2 := scanN_pre g ns b0 ns.length i (by omega) (Nat.le_refl _) k hk
  rw [List.take_length] at e1 e2
  rwa [e1, e2] at this
end
def litV (a : BitVec 128) (l : Int) : Bool := if litVar l = 0 then false else (sHas a (litVar l) == decide (0 < l))
def nodeV (a : BitVec 128) (x : Nd) (is : List Bool) : Bool :=
 if x.1 = 1 then true else if x.1 = 2 then litV a x.2.1
 else if x.1 = 3 then x.2.2.all fun k => is.getD k.toNat false
 else if x.1 = 4 then x.2.2.any fun k => is.getD k.toNat false else false
def valsL (a : BitVec 128) (ns : List Nd) : List Bool := scanN (nodeV a) ns
def evalR (ns : List Nd) (a : BitVec 128) : Bool := (valsL a ns).getD (ns.length - 1) false
def evalN (N : Int) (ns : List Nd) (a : BitVec 128) : Bool := validN N ns && evalR ns a
def nodeS (x : Nd) (out : List (BitVec 128)) : BitVec 128 := x.2.2.foldl (fun s k => s ||| out.getD k.toNat 0#128) (sBit (litVar x.2.1))
def varsL (ns : List Nd) : List (BitVec 128) := scanN nodeS ns
def matS (ns : List Nd) : BitVec 128 := (varsL ns).getD (ns.length - 1) 0#128
def aSets (l : List (BitVec 128)) : AV := .sl 2 (l.map fun s => [AV.v (.int .u64 ((lo s).toNat : Int)), .v (.int .u64 ((hi s).toNat : Int))])
@[simp] theorem sets_get {l : List (BitVec 128)} {k : Nat} (h : k < l.length) : (l.map fun s => [AV.v (.int .u64 ((lo s).toNat : Int)), .v (.int .u64 ((hi s).toNat : Int))]).getD k [] = [.v (.int .u64 ((lo (l.getD k 0#128)).toNat : Int)), .v (.int .u64 ((hi (l.getD k 0#128)).toNat : Int))] := by
 simp [List.getD, h]
@[simp ↓ high] theorem d_ids_aSets (l : List (BitVec 128)) : idsLL (l.map fun s => [AV.v (.int .u64 ((lo s).toNat : Int)), .v (.int .u64 ((hi s).toNat : Int))]) = [] := by
 induction l with
 | nil => rfl
 | cons p r ih => simp [idsLL, idsL, AV.ids, ih]
@[simp ↓ high] theorem d_ren_aSets (ρ : Nat → Nat) (l : List (BitVec 128)) : renLL ρ (l.map fun s => [AV.v (.int .u64 ((lo s).toNat : Int)), .v (.int .u64 ((hi s).toNat : Int))]) = l.map fun s => [AV.v (.int .u64 ((lo s).toNat : Int)), .v (.int .u64 ((hi s).toNat : Int))] := renLL_pure ρ _ (d_ids_aSets l)
def accV (x : Nd) (out : List (BitVec 128)) (j : Nat) : BitVec 128 := (x.2.2.take j).foldl (fun s k => s ||| out.getD k.toNat 0#128) (sBit (litVar x.2.1))
theorem accV_succ (x : Nd) (out : List (BitVec 128)) {j : Nat} (hj : j < x.2.2.length) : accV x out (j + 1) = accV x out j ||| out.getD (x.2.2.getD j 0).toNat 0#128 := by
 unfold accV
 rw [List.take_add_one, List.getElem?_eq_getElem hj, List.foldl_append]
 simp [List.getD, hj]
theorem accV_all (x : Nd) (out : List (BitVec 128)) : accV x out x.2.2.length = nodeS x out := by
 unfold accV nodeS; rw [List.take_length]
theorem foldS_has (out : List (BitVec 128)) (v : Int) : ∀ (xs : List Int) (s : BitVec 128), sHas (xs.foldl (fun s k => s ||| out.getD k.toNat 0#128) s) v = (sHas s v || xs.any fun k => sHas (out.getD k.toNat 0#128) v)
 | [], s => by simp
 | k :: r, s => by
  rw [List.foldl_cons, foldS_has out v r, sHas_or, List.any_cons, Bool.or_assoc]
theorem nodeS_has (x : Nd) (out : List (BitVec 128)) (v : Int) : sHas (nodeS x out) v = (sHas (sBit (litVar x.2.1)) v || x.2.2.any fun k => sHas (out.getD k.toNat 0#128) v) := foldS_has _ _ _ _
theorem valid_form {N : Int} {ns : List Nd} (h : validN N ns = true) {i : Nat} (hi : i < ns.length) : formB (ns.getD i nd0) N i = true := by
 unfold validN at h
 simp only [Bool.and_eq_true] at h
 exact List.all_eq_true.1 h.2 i (List.mem_range.2 hi)
theorem form_in {x : Nd} {n i : Int} (h : formB x n i = true) {k : Int} (hk : k ∈ x.2.2) : 0 ≤ k ∧ k < i := by
 unfold formB at h
 rw [Bool.and_eq_true] at h
 have := List.all_eq_true.1 h.1 k hk
 simpa using this
theorem valid_len {N : Int} {ns : List Nd} (h : validN N ns = true) : 0 < ns.length := by
 unfold validN at h
 simp only [Bool.and_eq_true, decide_eq_true_eq] at h
 omega
theorem all_congr {xs : List Int} {p q : Int → Bool} (h : ∀ k ∈ xs, p k = q k) : xs.all p = xs.all q := by
 induction xs with
 | nil => rfl
 | cons a r ih => rw [List.all_cons, List.all_cons, h a (by simp), ih fun k hk => h k (by simp [hk])]
theorem any_congr {xs : List Int} {p q : Int → Bool} (h : ∀ k ∈ xs, p k = q k) : xs.any p = xs.any q := by
 induction xs with
 | nil => rfl
 | cons a r ih => rw [List.any_cons, List.any_cons, h a (by simp), ih fun k hk => h k (by simp [hk])]
theorem vals_dep {N : Int} {ns : List Nd} (h : validN N ns = true) (a b : BitVec 128) : ∀ i, i < ns.length → (∀ v, sHas ((varsL ns).getD i 0#128) v = true → sHas a v = sHas b v) → (valsL a ns).getD i false = (valsL b ns).getD i false := by
 intro i
 induction i using Nat.strongRecOn with
 | _ i ih =>
  intro hi hv
  unfold valsL
  rw [scanN_get _ ns false hi, scanN_get _ ns false hi]
  unfold varsL at hv
  rw [scanN_get _ ns _ hi] at hv
  have hf := valid_form h hi
  generalize ns.getD i nd0 = x at hf hv ⊢
  have hin : ∀ k ∈ x.2.2, (scanN (nodeV a) (ns.take i)).getD k.toNat false = (scanN (nodeV b) (ns.take i)).getD k.toNat false := fun k hk => by
   obtain ⟨k0, k1⟩ := form_in hf hk
   have hlt : k.toNat < i := by omega
   have := ih k.toNat hlt (by omega) fun v hvk => hv v (by
    rw [nodeS_has]
    rw [Bool.or_eq_true, List.any_eq_true]
    refine .inr ⟨k, hk, ?_⟩
    have e := scanN_pre nodeS ns 0#128 ns.length i (by omega) (Nat.le_refl _) k.toNat hlt
    rw [List.take_length] at e
    rw [← e]; exact hvk)
   have e1 := scanN_pre (nodeV a) ns false ns.length i (by omega) (Nat.le_refl _) k.toNat hlt
   have e2 := scanN_pre (nodeV b) ns false ns.length i (by omega) (Nat.le_refl _) k.toNat hlt
   rw [List.take_length] at e1 e2
   rw [← e1, ← e2]; exact this
  unfold nodeV
  split
  ·rfl
  ·split
   ·unfold litV
    split
    ·rfl
    ·rename_i h0
     rw [hv (litVar x.2.1) (by
      rw [nodeS_has, Bool.or_eq_true, sHas_bit]
      left
      have h1 := litVar_range x.2.1
      exact decide_eq_true ⟨rfl, by omega, by omega⟩)]
   ·split
    ·exact all_congr hin
    ·split
     ·exact any_congr hin
     ·rfl
theorem eval_dep {N : Int} {ns : List Nd} (h : validN N ns = true) {a b : BitVec 128} (hv : ∀ v, sHas (matS ns) v = true → sHas a v = sHas b v) : evalR ns a = evalR ns b :=
 vals_dep h a b _ (by have := valid_len h; omega) hv
end Go.Proofs.YtllkogdgmmcfgaaDoor
