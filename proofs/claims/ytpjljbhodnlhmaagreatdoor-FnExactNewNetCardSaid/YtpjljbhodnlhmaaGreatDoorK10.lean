
/- The library's Clone and Delete at rows of structs. -/
import Derived.Test.YtpjljbhodnlhmaaGreatDoorK7
import Derived.Test.YtpjljbhodnlhmaaGreatDoorFam
import Derived.Lib.SliceRun
import Derived.StillTailTactics
namespace Go.Proofs.YtpjljbhodnlhmaaGreatDoor
open Go.RowKit
theorem Row.restrict {T : Type} {w : World} {lo : Nat} {e : TypeId} {sz : Nat} {enc : T → List Value} {A : Option Addr} {n c : Nat} {ts : List T} (h : Row w lo e sz enc A n c ts) (hen : ∀ t, (enc t).length = sz) (hA : A ≠ none) {k : Nat} (hk : k ≤ n) :
    Row w lo e sz enc A k c (ts.take k) := by
  have hl := h.len
  have hfl : (ts.take k).flatMap enc = (ts.flatMap enc).take (k * sz) := by
    have h1 : (ts.take k).flatMap enc ++ (ts.drop k).flatMap enc = ts.flatMap enc := by rw [← List.flatMap_append, List.take_append_drop]
    have h2 : ((ts.take k).flatMap enc).length = k * sz := by rw [flat_length hen]; simp; rw [Nat.min_eq_left (by omega)]
    rw [← h1, ← h2, List.take_left]
  refine ⟨⟨by rw [flat_length hen]; simp; rw [Nat.min_eq_left (by omega)], ?_⟩, by simp; omega⟩
  rcases h.own.2 with ⟨hv, _⟩ | ⟨g, cap, cur, hv, hlo, hh, hnc, hcm, hcs, htk⟩
  · simp only [Value.slice.injEq] at hv; exact absurd hv.1 hA
  · simp only [Value.slice.injEq] at hv
    obtain ⟨rfl, _, rfl⟩ := hv
    refine .inr ⟨g, _, cur, rfl, hlo, hh, by omega, hcm, hcs, ?_⟩
    rw [hfl, ← htk, List.take_take, Nat.min_eq_left (Nat.mul_le_mul_right _ hk)]
theorem run_clear_spare {T : Type} {P : Program} {w : World} {lo : Nat} {e t ty : TypeId} {sz : Nat} {enc : T → List Value} {g n c : Nat} {ts : List T} (z : Value) (ht : P.underlying t = some (.slice e)) (hv : ∀ w, (zeroValue e).run P w = .ok z w) (hz : z.cells.size = sz) (h1 : ∀ u ∈ z.cells, u.oneCell' = true)
    (h : Row w lo e sz enc (some ⟨g, 0, none⟩) n c ts) (d c' : Nat) (hd : n + d ≤ c) (o : Nat) (ho : o = n * sz) :
    ∃ w', (Builtin.clear_ #[t] ty #[.slice (some ⟨g, o, none⟩) d c']).run P w = .ok (.tuple #[]) w' ∧ Row w' lo e sz enc (some ⟨g, 0, none⟩) n c ts ∧ w.grownBy w' (some g) := by
  subst ho
  cases d with
  | zero => exact ⟨w, by simp [Builtin.clear_, run_underlying ht], h, World.grownBy.refl _ _⟩
  | succ d =>
    rcases h.own.2 with ⟨hv', _⟩ | ⟨g', cap, cur, hv', hlo, hh, hnc, hcm, hcs, htk⟩
    · simp at hv'
    · simp only [Value.slice.injEq, Option.some.injEq, Addr.mk.injEq, and_true, true_and] at hv'
      obtain ⟨rfl, rfl⟩ := hv'
      have hzs : (Builtin.zeroCells z.cells (d + 1)).toList.length = (d + 1) * sz := by simp [Builtin.zeroCells, hz]
      have hb : (n + (d + 1)) * sz ≤ c * sz := Nat.mul_le_mul_right _ hd
      rw [Nat.add_mul] at hb
      have hone : ∀ v ∈ (Builtin.zeroCells z.cells (d + 1)).toList, v.oneCell' = true := by
        intro v hv2
        simp only [Builtin.zeroCells, Array.toList_map, List.mem_map] at hv2
        obtain ⟨i, hi, rfl⟩ := hv2
        have hi' : i < (d + 1) * z.cells.size := by simpa using hi
        have hpos : 0 < z.cells.size := by
          rcases Nat.eq_zero_or_pos z.cells.size with h0 | h0
          · rw [h0] at hi'; omega
          · exact h0
        have hm := Nat.mod_lt i hpos
        apply h1
        simp only [Array.getElem!_eq_getD, Array.getD, hm, dif_pos]
        exact Array.getElem_mem hm
      have hst := run_storeCells_at (P := P) g (n * sz) e (Builtin.zeroCells z.cells (d + 1)).toList 0 cur w hh (by rw [hzs, hcs]; omega) hone
      refine ⟨_, by simp [Builtin.clear_, run_underlying ht, hv, hst]; rfl, ⟨⟨h.own.1, .inr ⟨g, c, _, rfl, hlo, setRow_heap w g cur _ e _ hh, hnc, hcm, ?_, ?_⟩⟩, h.len⟩, ⟨rfl, rfl, rfl, by simp, fun k _ hk => setRow_other w g k _ (fun he => hk (by simp [he]))⟩⟩
      · have hzs' : (Builtin.zeroCells z.cells (d + 1)).size = (d + 1) * sz := by rw [← hzs]; simp
        simp only [Nat.add_zero, List.size_toArray, List.length_append, List.length_take, List.length_drop, Array.length_toList, hzs']
        rw [Nat.min_eq_left (by omega)]
        omega
      · simp only [Nat.add_zero]
        rw [List.take_append_of_le_length (by simp; omega), List.take_take, Nat.min_self, htk]
section
variable {T : Type} {enc : T → List Value} {P : Program} {w : World}
theorem Rd.part {A : Option Addr} {n sz : Nat} {xs : List (List Value)} {g off : Nat} (h : Rd w (some ⟨g, off, none⟩) n sz xs) (j : Nat) (hj : j ≤ n) (off' : Nat) (ho : n - j = 0 ∨ off' = off + j * sz) : Rd w (some ⟨g, off', none⟩) (n - j) sz (xs.drop j) := by
  refine ⟨by rw [List.length_drop, h.len], fun hn => ?_⟩
  obtain ⟨b, o, hA, hb, hc⟩ := h.at_ (by omega)
  simp only [Option.some.injEq, Addr.mk.injEq, and_true] at hA
  obtain ⟨rfl, rfl⟩ := hA
  refine ⟨g, off', rfl, hb, fun k q cs u hk hq => ?_⟩
  rw [List.getElem?_drop] at hk
  rw [← hc (j + k) q cs u hk hq]
  have : off' = off + j * sz := by omega
  rw [this, Nat.add_mul]
  congr 2; omega
/-- 'append(s[:i], s[j:]...)', within the row. -/
theorem wpList_append_within {ops : Array Oper} {rest : List Oper} {o : Oper} {a : Act} {Q : Exit → Act → World → Prop} (hgd : o.guard = none) (s x : Operand) (t : TypeId)
    (ho : o.op = .call { callee := .builtin .append, args := #[s, x], argTypes := #[t, t] }) (lo : Nat) (e : TypeId) (i0 : TypeInfo) (size : Nat) (ht : P.underlying t = some (.slice e)) (hi : P.info? e = some i0)
    (hsize : i0.size = size) (hsz : 0 < size) (hen : ∀ t, (enc t).length = size) (h1 : ∀ t u, u ∈ enc t → u.oneCell' = true)
    (g n c : Nat) (ts : List T) (hrow : Row w lo e size enc (some ⟨g, 0, none⟩) n c ts) (i j : Nat) (hij : i ≤ j) (hjn : j ≤ n) (hs : a.eval s = .slice (some ⟨g, 0, none⟩) i c)
    (off m c' : Nat) (hx : a.eval x = .slice (some ⟨g, off, none⟩) m c') (hm : m = n - j) (hoff : n - j = 0 ∨ off = j * size)
    (h : ∀ w', Row w' lo e size enc (some ⟨g, 0, none⟩) (i + (n - j)) c (ts.take i ++ ts.drop j) → w.grownBy w' (some g) → wpList P ops Q rest (a.put o.dst (.slice (some ⟨g, 0, none⟩) (i + (n - j)) c)) w') : wpList P ops Q (o :: rest) a w := by
  subst hm
  have ⟨hnc, _⟩ := hrow.caps
  have hl := hrow.len
  have r1 := hrow.restrict hen (by simp) (show i ≤ n by omega)
  have rd := (hrow.rd hen)
  have rp : Rd w (some ⟨g, off, none⟩) (n - j) size ((ts.drop j).map enc) := by
    rw [List.map_drop]
    exact rd.part (A := none) j hjn off (by rw [Nat.zero_add]; exact hoff)
  have hfl := flat_length hen (ts.drop j)
  have hdl : (ts.drop j).length = n - j := by simp; omega
  have hnews : ∀ k u, ((ts.drop j).flatMap enc)[k]? = some u → w.cell? ((⟨g, off, none⟩ : Addr).add k) = some u := fun k u hk => by
    have hkl : k < (ts.drop j).length * size := by rw [← hfl]; exact (List.getElem?_eq_some_iff.1 hk).1
    have hpos : 0 < n - j := by
      rcases Nat.eq_zero_or_pos (n - j) with h0 | h0
      · rw [hdl, h0] at hkl; omega
      · exact h0
    obtain ⟨b, o', hA, _, hc⟩ := rp.at_ hpos
    simp only [Option.some.injEq, Addr.mk.injEq, and_true] at hA
    obtain ⟨rfl, rfl⟩ := hA
    have hk2 : k / size < (ts.drop j).length := (Nat.div_lt_iff_lt_mul hsz).2 hkl
    have hj2 : k % size < size := Nat.mod_lt _ hsz
    have e1 : k / size * size + k % size = k := by rw [Nat.mul_comm]; exact Nat.div_add_mod k size
    have h2 := flat_get hen (ts.drop j) (k / size) (k % size) _ (List.getElem?_eq_getElem hk2) hj2
    rw [e1, hk] at h2
    have h3 := hc (k / size) (k % size) (enc (ts.drop j)[k / size]) u (by rw [List.getElem?_map, List.getElem?_eq_getElem hk2]; rfl) h2.symm
    rw [← h3]
    congr 1
    unfold Addr.add
    split
    · simp only [Addr.mk.injEq, and_true, true_and]; omega
    · simp only [Addr.mk.injEq, and_true, true_and]; omega
  obtain ⟨w', hrun, h2, h3⟩ := run_append_fits (P := P) (w := w) lo t o.type e i0 size ht hi hsize g i c _ r1.own ⟨g, off, none⟩ (n - j) c' _ (by rw [hfl, hdl]) hnews (by
    intro u hu
    obtain ⟨t, _, htu⟩ := List.mem_flatMap.1 hu
    exact h1 t u htu) (by omega)
  refine wpList_plain hgd fun K hK => ?_
  unfold Oper.wp execOp
  simp only [ho, resolve, invoke, builtin, Sem.run_bind, Sem.run_pure, Result.andThen_ok, List.map_toArray, List.map_cons, List.map_nil, hs, hx, hrun]
  exact hK _ _ (h w' ⟨by rw [List.flatMap_append]; exact h2, by simp; omega⟩ h3)
/-- 'clear(s[len(s):m])'. -/
theorem wpList_clear_spare {ops : Array Oper} {rest : List Oper} {o : Oper} {a : Act} {Q : Exit → Act → World → Prop} (hgd : o.guard = none) (x : Operand) (t : TypeId)
    (ho : o.op = .call { callee := .builtin .clear, args := #[x], argTypes := #[t] }) (lo : Nat) (e : TypeId) (size : Nat) (z : Value) (ht : P.underlying t = some (.slice e)) (hv : ∀ w, (zeroValue e).run P w = .ok z w) (hz : z.cells.size = size) (h1 : ∀ u ∈ z.cells, u.oneCell' = true)
    (g n c : Nat) (ts : List T) (hrow : Row w lo e size enc (some ⟨g, 0, none⟩) n c ts) (off d c' : Nat) (hx : a.eval x = .slice (some ⟨g, off, none⟩) d c') (hd : n + d ≤ c) (hoff : off = n * size)
    (h : ∀ w', Row w' lo e size enc (some ⟨g, 0, none⟩) n c ts → w.grownBy w' (some g) → wpList P ops Q rest (a.put o.dst (.tuple #[])) w') : wpList P ops Q (o :: rest) a w := by
  obtain ⟨w', hrun, h2, h3⟩ := run_clear_spare (P := P) (ty := o.type) z ht hv hz h1 hrow d c' hd off hoff
  refine wpList_plain hgd fun K hK => ?_
  unfold Oper.wp execOp
  simp only [ho, resolve, invoke, builtin, Sem.run_bind, Sem.run_pure, Result.andThen_ok, List.map_toArray, List.map_cons, List.map_nil, hx, hrun]
  exact hK _ _ (h w' h2 h3)
end
end Go.Proofs.YtpjljbhodnlhmaaGreatDoor
