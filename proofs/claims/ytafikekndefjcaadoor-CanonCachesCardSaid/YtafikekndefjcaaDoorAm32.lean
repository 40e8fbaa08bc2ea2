/- An abstract machine for the text, part thirty-two: zeros that are appended to a slice; plain lemmas over any program; no condition. -/
import Derived.Test.YtafikekndefjcaaDoorAm31
import Derived.Lib.AppendZerosOnto
namespace Go.Proofs.YtafikekndefjcaaDoor
set_option linter.unusedVariables false
set_option linter.unusedSimpArgs false
set_option linter.unusedSectionVars false
open Go.RowKit
section z
variable {P : Program} {B : Base} {G : Gh} {σ : AS} {w : World} {a : Act} {o : Oper}
theorem run_append_roomZ {P : Program} (w : World) (t tn ty e : TypeId) (i : TypeInfo) (z : Value) {kn kq : IntKind} (ht : P.underlying t = some (.slice e)) (htn : P.underlying tn = some (.int kn)) (hi : P.info? e = some i) (hz : i.zero = some z)
    (g p sLen sCap : Nat) (tb : TypeId) (cur : Array Value) (hg : w.heap[g]? = some (.cells cur tb (0, 0)))
    (m : Nat) (h0 : 0 < m) (hs0 : 0 < i.size) (h63 : m ≤ 140737488355328) (h48 : m * i.bytes ≤ 281474976710656) (news : List Value) (hnews : (Builtin.zeroCells z.cells m).toList = news) (h1 : ∀ u ∈ news, u.oneCell' = true)
    (hroom : sLen + m ≤ sCap) (hfit : p + sLen * i.size + news.length ≤ cur.size) :
    (Builtin.append_ #[t, tn] ty #[.slice (some ⟨g, p, none⟩) sLen sCap, .int kq (m : Int)]).run P w =
      .ok (.slice (some ⟨g, p, none⟩) (sLen + m) sCap) (w.setRow g (spl cur.toList (p + sLen * i.size) news).toArray) := by
  have hst := run_storeCells_at P g (p + sLen * i.size) tb news 0 cur w hg (by simpa using hfit) h1
  simp only [Nat.add_zero] at hst
  have hw : IntKind.i64.wrap (m : Int) = m := IntWalk.i64_in _ ⟨by omega, by omega⟩
  have hn : m ≠ 0 := by omega
  have h1' : ¬ ((m : Int) < 0) := by omega
  have h2 : ¬ (281474976710656 < (m : Int) * (i.bytes : Int)) := by
    have : ((m * i.bytes : Nat) : Int) ≤ 281474976710656 := by omega
    rw [Int.natCast_mul] at this; omega
  have hns : ¬ (m * i.size = 0) := Nat.mul_ne_zero hn (by omega)
  subst hnews
  simp [Builtin.append_, run_underlying ht, run_underlying htn, sizeOf, typeInfo, zeroValue, hi, hz, asInt, asIntOf, hw, h1', h2, hns, hroom, Addr.add_lit, hst, spl]
theorem ok_append_z {t tn : TypeId} {ti : TI} {e : TypeId} {eb : Nat} {ez : List Value} {s x : Operand} {k off n id m : Nat} {ob : AObj} {kn kq : IntKind} (hT : TIok P t ti) (hk : ti.kind = .slice e ob.sz eb ez) (htn : P.underlying tn = some (.int kn))
    (ho : o.op = .call { callee := .builtin .append, args := #[s, x], argTypes := #[t, tn] }) (hs : σ.ev s = some (.ref k off n)) (hob : lk σ.objs k = some ob) (het : ob.t = e) (hend : off + n = ob.xs.length)
    (hx : σ.ev x = some (.v (.int kq (m : Int)))) (hpos : 0 < m) (hb : (n + m) * eb ≤ 140737488355328) (heb : 0 < eb) (hid : id ∉ σ.ids) :
    CoreOk P o σ (.ref id 0 (n + m), [(k, none), (id, some ⟨ob.t, ob.sz, ob.xs.drop off ++ List.replicate m (ez.map .v)⟩)]) := by
  intro B G w a hr K Q hK
  obtain ⟨_, _, d, _, _, h3, _, _, _, hkk⟩ := hT.i
  rw [hk] at hkk
  obtain ⟨rfl, j, y, hj1, hj2, hj3, hj4, hj5⟩ := hkk
  obtain ⟨hezl, hezo⟩ := hT.ezero _ _ _ _ hk
  subst het
  have hz : 0 < ob.sz := hT.epos _ _ _ _ hk
  have hxv := (hr.ev hx).v_eq
  have hysz : y.cells.size = ob.sz := by rw [← hezl, ← hj5]; simp
  have hzs : ∀ q, (Builtin.zeroCells y.cells q).size = q * ob.sz := fun q => by rw [size_zeroCells, hysz]
  have hzc : ∀ i c, c < ob.sz → (y.cells[(i * ob.sz + c) % y.cells.size]!) = ez.getD c undef := fun i c hc => by
    have h2 : (i * ob.sz + c) % y.cells.size = c := by rw [hysz, Nat.add_comm, Nat.add_mul_mod_self_right, Nat.mod_eq_of_lt hc]
    rw [h2, ← hj5]
    simp [List.getD, show c < y.cells.size by omega]
  obtain ⟨f, hfd⟩ : ∃ f : Nat → Value, (fun q => y.cells[q % y.cells.size]!) = f := ⟨_, rfl⟩
  have hfd2 : ∀ q, y.cells[q % y.cells.size]! = f q := fun q => by rw [← hfd]
  have hzr : Builtin.zeroCells y.cells m = ((List.range (m * ob.sz)).map f).toArray := by
    unfold Builtin.zeroCells
    rw [hysz, ← hfd]
    apply Array.ext'
    rw [Array.toList_map, Array.toList_range, hysz]
  obtain ⟨ys, hysd⟩ : ∃ ys, List.replicate m (ez.map AV.v) = ys := ⟨_, rfl⟩
  have hyl : ys.length = m := by rw [← hysd]; simp
  have hrow : ∀ i, i < ys.length → (ys.getD i []).length = ob.sz := fun i hi => by
    rw [hyl] at hi
    rw [← hysd]
    simp [List.getD, hi, hezl]
  have hf2 : ∀ i c, i < ys.length → c < ob.sz → (f (i * ob.sz + c)).oneCell' = true ∧ Rv G ((ys.getD i []).getD c .any) (f (i * ob.sz + c)) := fun i c hi hc => by
    rw [hyl] at hi
    rw [← hfd2, hzc i c hc, ← hysd]
    have hcl : c < ez.length := by omega
    have e1 : ez.getD c undef = ez[c] := by simp [List.getD, hcl]
    have e2 : ((List.replicate m (ez.map AV.v)).getD i []).getD c .any = .v (ez.getD c undef) := by simp [List.getD, hi, hcl]
    rw [e2]
    exact ⟨by rw [e1]; exact hezo _ (List.getElem_mem hcl), .v _⟩
  rw [hysd] at hK
  have hold : σ.rows ob.sz (.ref k off n) = some (ob.xs.drop off) := by
    simp only [AS.rows, hob]
    rw [if_pos ⟨trivial, by omega⟩, List.take_of_length_le (by simp; omega)]
  obtain ⟨ad, n', c, hsv, hn', had, hrow0, f0, hf01, hf02⟩ := hr.rows (hr.ev hs) hz hold
  have hnn : n' = n := by rw [hn']; simp; omega
  subst hnn
  rw [← hyl] at hb hK hzr hxv hpos
  clear hysd
  have hneed : n' + ys.length ≤ 140737488355328 := by
    have : (n' + ys.length) * 1 ≤ (n' + ys.length) * eb := Nat.mul_le_mul_left _ heb
    omega
  have hneb : ys.length * eb ≤ 140737488355328 := Nat.le_trans (Nat.mul_le_mul_right _ (by omega)) hb
  have hrv := hr.ev hs
  rw [hsv] at hrv
  have hkid : k ≠ id := fun e => hid (by
    rw [← e]
    apply hr.ids
    cases hrv with
    | ref _ _ _ blk base cap sz _ hl => rw [hl]; simp)
  have hop : ∀ v w', (Builtin.append_ #[t, tn] o.type #[.slice ad n' c, .int kq (ys.length : Int)]).run P w = .ok v w' → (execOp a.eval o).run P w = .ok (.value v) w' := fun v w' h => by
    unfold execOp
    rw [ho]
    simp [resolve, invoke, builtin, hsv, hxv, h]
  unfold Oper.wp
  have hone : ∀ u ∈ (List.range (ys.length * ob.sz)).map f, u.oneCell' = true := fun u hu => by
    simp only [List.mem_map, List.mem_range] at hu
    obtain ⟨q, hq, rfl⟩ := hu
    obtain ⟨i, c, hi, hc, rfl⟩ := dm_split hq
    exact (hf2 i c hi hc).1
  have hzl : (Builtin.zeroCells y.cells ys.length).toList = (List.range (ys.length * ob.sz)).map f := by rw [hzr]
  cases hrv with
  | ref _ _ _ blk base cap sz _ hl hle hcm hb' h0 =>
    obtain ⟨blk', ba, ca, g1, g2, g3, g4, g5⟩ := (hr.heap.obj k ob hob).cells hz
    rw [hl] at g1
    cases g1
    by_cases hroom : n' + ys.length ≤ cap - off
    · cases blk with
      | none =>
        have hc0 : cap = 0 := g5
        omega
      | some b =>
        obtain ⟨vs, g6, g7, g8⟩ := g5
        have hcapm : (off + n' + ys.length) * ob.sz ≤ cap * ob.sz := Nat.mul_le_mul_right _ (by omega)
        rw [Nat.add_mul, Nat.add_mul] at hcapm
        have hlt : off < cap := by omega
        obtain ⟨b', e1, rfl⟩ := hb' hlt
        cases e1
        obtain ⟨r1, r2⟩ := hr.extend hid hz hob hl hend (m := ys.length) rfl (by omega) hrow hf2 g6
        rw [hop _ _ (run_append_roomZ (P := P) w t tn o.type ob.t j y h3 htn hj1 hj4 b (base + off * ob.sz) n' (cap - off) ob.t vs g6 ys.length hpos (by rw [hj2]; exact hz) (by omega) (by rw [hj3]; omega) _ hzl hone hroom (by rw [hj2]; simp; omega))]
        rw [hj2]
        refine hK _ _ _ r1 r2 ?_
        have := Rv.ref (G := G.add id (some b, base + off * ob.sz, cap - off, ob.sz)) id 0 (n' + ys.length) (some b) (base + off * ob.sz) (cap - off) ob.sz (some ⟨b, base + off * ob.sz, none⟩) Gh.add_self (by omega) (by omega) (fun _ => ⟨_, rfl, by simp⟩) (fun h => by cases h)
        simpa using this
    · have hlen : (ob.xs.drop off ++ ys).length = n' + ys.length := by rw [List.length_append, ← hn']
      have hrows : ∀ i, i < (ob.xs.drop off ++ ys).length → ((ob.xs.drop off ++ ys).getD i []).length = ob.sz := fun i hi => by
        rw [hlen] at hi
        by_cases hin : i < n'
        · have e1 : (ob.xs.drop off ++ ys).getD i [] = (ob.xs.drop off).getD i [] := by simp only [List.getD]; rw [List.getElem?_append_left (by omega)]
          rw [e1]; exact hrow0 i hin
        · have e1 : (ob.xs.drop off ++ ys).getD i [] = ys.getD (i - n') [] := by simp only [List.getD]; rw [List.getElem?_append_right (by omega)]; congr 2; omega
          rw [e1]; exact hrow _ (by omega)
      have hbj : (n' + ys.length) * j.bytes ≤ 140737488355328 := by rw [hj3]; exact hb
      have hcapg : ∀ old, grownCap w (n' + ys.length) old ob.t ≤ 9223372036854775807 := fun old => by
        have := grownCap_le_maxLen w (n' + ys.length) old ob.t (by rw [maxLen_eq]; omega)
        rw [maxLen_eq] at this; exact this
      have hge : ∀ old, n' + ys.length ≤ grownCap w (n' + ys.length) old ob.t := fun old => grownCap_ge w _ old ob.t
      obtain ⟨r1, r2⟩ := hr.regrow (k := some k) (id := id) hid (fun e => hkid (by cases e; rfl)) (t := ob.t) (sz := ob.sz) (cap := grownCap w (n' + ys.length) (cap - off) ob.t) (xs := ob.xs.drop off ++ ys) (vs := ((List.range (n' * ob.sz)).map f0).toArray ++ ((List.range (ys.length * ob.sz)).map f).toArray ++ Builtin.zeroCells y.cells (grownCap w (n' + ys.length) (cap - off) ob.t - (n' + ys.length)))
        hz (by rw [hlen]; exact hge _) (hcapg _) (by
          have h1 := hge (cap - off)
          simp [hzs]
          rw [← Nat.add_mul, ← Nat.add_mul]; exact Nat.mul_le_mul_right _ (by omega)) hrows (cat_val hn' rfl hf02 hf2) (w1 := w.drew) ⟨rfl, rfl, rfl, rfl⟩
      have hfc : (Builtin.firstCells j.size n' (.slice ad n' (cap - off))).run P w.drew = .ok ((List.range (n' * ob.sz)).map f0).toArray w.drew := by
        cases ad with
        | none =>
          have hcap0 : cap = off := h0 rfl
          have hn0 : n' = 0 := by omega
          subst hn0
          simp [Builtin.firstCells]
        | some x1 =>
          exact run_firstCells_some (P := P) w.drew j.size n' x1 n' (cap - off) _ (by simp [hj2]) (fun q u hq => by
            obtain ⟨h1, h2⟩ := range_get _ _ _ _ hq
            have := hf01 x1 q rfl h1
            rw [← h2]
            exact this)
      have hrun := Lib.run_append_grow_zeros (P := P) w t tn o.type ob.t j y kq kn h3 htn hj1 hj4 ad n' (cap - off) ((List.range (n' * ob.sz)).map f0) hfc ys.length hpos (by rw [hj2]; exact hz) (by omega) (by omega) (by rw [hj3]; omega) (growslice_fits (by omega) hbj)
      rw [hzr] at hrun
      rw [hop _ _ hrun]
      refine hK _ _ _ r1 r2 ?_
      have := Rv.ref (G := G.add id (some w.heap.size, 0, grownCap w (n' + ys.length) (cap - off) ob.t, ob.sz)) id 0 (n' + ys.length) (some w.heap.size) 0 (grownCap w (n' + ys.length) (cap - off) ob.t) ob.sz (some ⟨w.heap.size, 0, none⟩) Gh.add_self (by have := hge (cap - off); omega) (hcapg _) (fun _ => ⟨_, rfl, by simp⟩) (fun h => by cases h)
      simpa using this
theorem ok_append_z0 {t tn : TypeId} {ti : TI} {e : TypeId} {eb : Nat} {ez : List Value} {s x : Operand} {k off n : Nat} {ob : AObj} {kn kq : IntKind} (hT : TIok P t ti) (hk : ti.kind = .slice e ob.sz eb ez) (htn : P.underlying tn = some (.int kn))
    (ho : o.op = .call { callee := .builtin .append, args := #[s, x], argTypes := #[t, tn] }) (hs : σ.ev s = some (.ref k off n)) (hob : lk σ.objs k = some ob) (hend : off + n ≤ ob.xs.length)
    (hx : σ.ev x = some (.v (.int kq 0))) : CoreOk P o σ (.ref k off n, []) :=
  CoreOk.pure fun B G w a hr => by
    obtain ⟨_, _, d, _, _, h3, _, _, _, hkk⟩ := hT.i
    rw [hk] at hkk
    obtain ⟨rfl, j, y, hj1, hj2, hj3, hj4, hj5⟩ := hkk
    have hxv := (hr.ev hx).v_eq
    have hsv := hr.ev hs
    obtain ⟨v, hv⟩ : ∃ v, a.eval s = v := ⟨_, rfl⟩
    rw [hv] at hsv
    refine ⟨v, ?_, hsv⟩
    cases hsv with
    | ref _ _ _ blk base cap sz ad hl hle hcm hb' h0 =>
      have hw : IntKind.i64.wrap 0 = 0 := rfl
      unfold execOp
      rw [ho]
      have hn : n ≤ cap - off := by omega
      have hst : ∀ a, (storeCells a []).run P w = .ok () w := fun a => by simp [storeCells]
      cases ad <;> simp [resolve, invoke, builtin, hv, hxv, Builtin.append_, run_underlying h3, run_underlying htn, sizeOf, typeInfo, hj1, asInt, asIntOf, hw, hn, hst]
end z
end Go.Proofs.YtafikekndefjcaaDoor
