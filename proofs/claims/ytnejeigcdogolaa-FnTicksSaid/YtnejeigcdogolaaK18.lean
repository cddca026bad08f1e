
/- slices.Insert at rows of structs: one element. -/
import Derived.Test.YtnejeigcdogolaaK11
import Derived.Lib.Overlaps
import Derived.Lib.AppendZerosOnto
import Derived.Laws.Externs
import Derived.Laws.IdiomCopy
namespace Go.Proofs.Ytnejeigcdogolaa
open Go.RowKit
section
variable {P : Program} {w : World} {lo : Nat} {e : TypeId} {sz g n c : Nat} {xs : List Value}
theorem storesFrom_eq (g : Nat) : ∀ (vs : List Value) (w : World) (i : Nat), storesFrom w g i vs = w.setCells g i vs
  | [], _, _ => rfl
  | v :: vs, w, i => by rw [storesFrom, World.setCells, storesFrom_eq g vs]
theorem own_more (h : w.ownsRow lo e sz (.slice (some ⟨g, 0, none⟩) n c) n xs) {k : Nat} (hk : n + k ≤ c) : ∃ ys, ys.length = k * sz ∧ w.ownsRow lo e sz (.slice (some ⟨g, 0, none⟩) (n + k) c) (n + k) (xs ++ ys) := by
  rcases h.2 with ⟨hv, _⟩ | ⟨g', cap, cur, hv, hlo, hh, hnc, hcm, hcs, htk⟩
  · simp at hv
  · simp only [Value.slice.injEq, Option.some.injEq, Addr.mk.injEq, and_true, true_and] at hv
    obtain ⟨rfl, rfl⟩ := hv
    have hb : (n + k) * sz ≤ c * sz := Nat.mul_le_mul_right _ hk
    rw [Nat.add_mul] at hb
    have hl : ((cur.toList.drop (n * sz)).take (k * sz)).length = k * sz := by rw [List.length_take, List.length_drop, Array.length_toList, hcs]; omega
    refine ⟨(cur.toList.drop (n * sz)).take (k * sz), hl, ?_, .inr ⟨g, c, cur, rfl, hlo, hh, hk, hcm, hcs, ?_⟩⟩
    · rw [List.length_append, hl, h.1, Nat.add_mul]
    · rw [Nat.add_mul, List.take_add, htk]
theorem run_copyN (w : World) (dT sT ty elem : TypeId) (b o dLen dCap : Nat) (a : Addr) (sLen sCap : Nat) (cs : List Value) (sz : Nat)
    (hu : P.underlying dT = some (.slice elem)) {i : TypeInfo} (hq : P.info? elem = some i) (hi : i.size = sz) (hn : cs.length = Nat.min sLen dLen * sz)
    (hsrc : ∀ j v, cs[j]? = some v → w.cell? (a.add j) = some v) (hc : ∀ j, j < cs.length → (w.cell? ⟨b, o + j, none⟩).isSome = true) (hf : ∀ j, j < cs.length → w.frozen? ⟨b, o + j, none⟩ = false) (h1 : ∀ v ∈ cs, v.oneCell' = true) :
    (Builtin.copy_ #[dT, sT] ty #[.slice (some ⟨b, o, none⟩) dLen dCap, .slice (some a) sLen sCap]).run P w = .ok (goInt (Nat.min sLen dLen)) (w.setCells b o cs) := by
  have hl := run_loadCells_list (P := P) w a cs hsrc
  have hst := run_storeCells_cells (P := P) b o cs 0 w (by simpa using hc) (by simpa using hf) h1
  simp [Builtin.copy_, run_underlying hu, Builtin.lenOf, Builtin.firstCells, sizeOf, typeInfo, hq, hi, ← hn, hl, hst]
/-- 'copy(s[o:], x)' within a row. -/
theorem wpList_copy_own {ops : Array Oper} {rest : List Oper} {o : Oper} {a : Act} {Q : Exit → Act → World → Prop} (hgd : o.guard = none) (d s : Operand) (t : TypeId)
    (ho : o.op = .call { callee := .builtin .copy, args := #[d, s], argTypes := #[t, t] }) (ht : P.underlying t = some (.slice e)) {i0 : TypeInfo} (hi : P.info? e = some i0) (hsize : i0.size = sz)
    (row : w.ownsRow lo e sz (.slice (some ⟨g, 0, none⟩) n c) n xs) (off dLen dCap : Nat) (hd : a.eval d = .slice (some ⟨g, off, none⟩) dLen dCap) (sa : Addr) (sLen sCap : Nat) (hs : a.eval s = .slice (some sa) sLen sCap)
    (cs : List Value) (hcs : cs.length = Nat.min sLen dLen * sz) (hoff : off + cs.length ≤ n * sz) (hsrc : ∀ j v, cs[j]? = some v → w.cell? (sa.add j) = some v) (h1 : ∀ v ∈ cs, v.oneCell' = true)
    (h : ∀ w', w'.ownsRow lo e sz (.slice (some ⟨g, 0, none⟩) n c) n (setsFrom xs off cs) → w.grownBy w' (some g) → ∀ v, wpList P ops Q rest (a.put o.dst v) w') : wpList P ops Q (o :: rest) a w := by
  have hx := row.1
  have hrun := run_copyN (P := P) w t t o.type e g off dLen dCap sa sLen sCap cs sz ht hi hsize hcs hsrc (fun j hj => by
    rw [row.cellAt _ (by omega), List.getElem?_eq_getElem (by omega)]; rfl) (fun j _ => row.frozenAt _) h1
  have hs2 := Row.storesFrom (i := off) cs row
  rw [storesFrom_eq] at hs2
  refine wpList_plain hgd fun K hK => ?_
  unfold Oper.wp execOp
  simp only [ho, resolve, invoke, builtin, Sem.run_bind, Sem.run_pure, Result.andThen_ok, List.map_toArray, List.map_cons, List.map_nil, hd, hs, hrun]
  exact hK _ _ (h _ hs2.1 hs2.2 _)
end
section
variable {T : Type} {enc : T → List Value} {sz : Nat}
theorem flat_take (hs : ∀ t, (enc t).length = sz) (ts : List T) (k : Nat) : (ts.flatMap enc).take (k * sz) = (ts.take k).flatMap enc := by
  induction ts generalizing k with
  | nil => simp
  | cons t ts ih =>
    cases k with
    | zero => simp
    | succ k =>
      have := hs t
      rw [List.take_succ_cons, List.flatMap_cons, List.flatMap_cons, Nat.succ_mul, Nat.add_comm, ← this, List.take_length_add_append, this, ih]
theorem flat_drop (hs : ∀ t, (enc t).length = sz) (ts : List T) (k : Nat) : (ts.flatMap enc).drop (k * sz) = (ts.drop k).flatMap enc := by
  have h1 := flat_take hs ts k
  have h2 : (ts.take k).flatMap enc ++ (ts.drop k).flatMap enc = ts.flatMap enc := by rw [← List.flatMap_append, List.take_append_drop]
  have h3 := List.take_append_drop (k * sz) (ts.flatMap enc)
  rw [h1] at h3
  exact List.append_cancel_left (h3.trans h2.symm)
/-- What lies in the row behind the two copies. -/
theorem ins_cells (hs : ∀ t, (enc t).length = sz) {ts : List T} {n i : Nat} (hl : ts.length = n) (hi : i ≤ n) (t : T) (A R : List Value) (hA : A.take (i * sz) = (ts.take i).flatMap enc) (hAl : A.length = (n + 1) * sz) (hR : R = enc t) :
    setsFrom (setsFrom A ((i + 1) * sz) ((ts.drop i).flatMap enc)) (i * sz) R = (ts.take i ++ [t] ++ ts.drop i).flatMap enc ∧ setsFrom (setsFrom A (i * sz) R) ((i + 1) * sz) ((ts.drop i).flatMap enc) = (ts.take i ++ [t] ++ ts.drop i).flatMap enc := by
  subst hR
  have hd : ((ts.drop i).flatMap enc).length = (n - i) * sz := by rw [flat_length hs]; simp [hl]
  have ht := hs t
  have hb : (n - i) * sz + (i + 1) * sz = (n + 1) * sz := by rw [← Nat.add_mul]; congr 1; omega
  have hi1 : (i + 1) * sz = i * sz + sz := Nat.succ_mul _ _
  have hat : (A.take (i * sz)).length = i * sz := by rw [List.length_take]; omega
  constructor
  · have h1 := setsFrom_eq ((ts.drop i).flatMap enc) A ((i + 1) * sz) (by omega)
    rw [h1, setsFrom_eq _ _ _ (by simp; omega), List.drop_of_length_le (by omega : A.length ≤ (i + 1) * sz + ((ts.drop i).flatMap enc).length), List.append_nil]
    rw [List.take_append_of_le_length (by rw [List.length_take]; omega), List.take_take, Nat.min_eq_left (by omega), hA, ht, ← hi1]
    rw [List.drop_append_of_le_length (by rw [List.length_take]; omega), List.drop_of_length_le (by rw [List.length_take]; omega)]
    simp
  · have h1 := setsFrom_eq (enc t) A (i * sz) (by omega)
    have hl2 : (A.drop (i * sz + (enc t).length)).length = (n - i) * sz := by rw [List.length_drop]; omega
    have h2 : (A.take (i * sz) ++ enc t).length = (i + 1) * sz := by rw [List.length_append, hat, ht]; omega
    have h3 : (A.take (i * sz) ++ enc t ++ A.drop (i * sz + (enc t).length)).length = (n + 1) * sz := by rw [List.length_append, h2, hl2]; omega
    have h4 := setsFrom_eq ((ts.drop i).flatMap enc) (A.take (i * sz) ++ enc t ++ A.drop (i * sz + (enc t).length)) ((i + 1) * sz) (by omega)
    have h5 : (A.take (i * sz) ++ enc t ++ A.drop (i * sz + (enc t).length)).drop ((i + 1) * sz + ((ts.drop i).flatMap enc).length) = [] := List.drop_of_length_le (by omega)
    have h6 : (A.take (i * sz) ++ enc t ++ A.drop (i * sz + (enc t).length)).take ((i + 1) * sz) = A.take (i * sz) ++ enc t := by rw [← h2, List.take_left]
    rw [h1, h4, h5, h6, hA, List.append_nil]
    simp
end
section
variable {T : Type} {enc : T → List Value} {w : World} {lo : Nat} {e : TypeId} {sz g n c : Nat} {ts : List T} {xs : List Value}
theorem own_shape (h : w.ownsRow lo e sz (.slice (some ⟨g, 0, none⟩) n c) n xs) (hn : 0 < n) (hs : 0 < sz) : ∃ k, k ≠ 0 ∧ w.shape? g = some (e, k) := by
  rcases h.2 with ⟨hv, _⟩ | ⟨g', cap, cur, hv, hlo, hh, hnc, hcm, hcs, htk⟩
  · simp at hv
  · simp only [Value.slice.injEq, Option.some.injEq, Addr.mk.injEq, and_true, true_and] at hv
    obtain ⟨rfl, rfl⟩ := hv
    refine ⟨cur.size, ?_, by simp [World.shape?, hh]⟩
    rw [hcs]
    have := Nat.mul_le_mul (show 1 ≤ c by omega) (show 1 ≤ sz from hs)
    omega
theorem own_src (hs : ∀ t, (enc t).length = sz) (row : Row w lo e sz enc (some ⟨g, 0, none⟩) n c ts) (i : Nat) (hi : i ≤ n) : ∀ (j : Nat) (v : Value), ((ts.drop i).flatMap enc)[j]? = some v → w.cell? ((⟨g, i * sz, none⟩ : Addr).add j) = some v := fun j v hj => by
  have hl := row.len
  have hlt : j < ((ts.drop i).flatMap enc).length := (List.getElem?_eq_some_iff.1 hj).1
  rw [flat_length hs, List.length_drop, hl] at hlt
  have hb : i * sz + (n - i) * sz = n * sz := by rw [← Nat.add_mul]; congr 1; omega
  rw [← flat_drop hs, List.getElem?_drop] at hj
  have := row.own.cellAt (i * sz + j) (by omega)
  rw [hj] at this
  rw [← this]
  unfold Addr.add
  split <;> simp_all
theorem own_pre (hs : ∀ t, (enc t).length = sz) (row : Row w lo e sz enc (some ⟨g, 0, none⟩) n c ts) (i : Nat) (hi : i ≤ n) : ∀ (j : Nat) (v : Value), ((ts.take i).flatMap enc)[j]? = some v → w.cell? ((⟨g, 0, none⟩ : Addr).add j) = some v := fun j v hj => by
  have hl := row.len
  have hlt : j < ((ts.take i).flatMap enc).length := (List.getElem?_eq_some_iff.1 hj).1
  rw [flat_length hs, List.length_take, hl, Nat.min_eq_left hi] at hlt
  have hb : i * sz ≤ n * sz := Nat.mul_le_mul_right _ hi
  rw [← flat_take hs, List.getElem?_take, if_pos hlt] at hj
  have := row.own.cellAt j (by omega)
  rw [hj] at this
  rw [← this]
  unfold Addr.add
  split <;> simp_all
theorem own_fresh (W : World) (hlo : lo ≤ W.heap.size) (cells : Array Value) (N G : Nat) (hG : N ≤ G) (hGm : G ≤ maxLen) (hsz : cells.size = G * sz) : (W.alloc (.cells cells e)).ownsRow lo e sz (.slice (some ⟨W.heap.size, 0, none⟩) N G) N (cells.toList.take (N * sz)) := by
  have hb : N * sz ≤ G * sz := Nat.mul_le_mul_right _ hG
  exact ⟨by rw [List.length_take, Array.length_toList, hsz]; omega, .inr ⟨_, G, cells, rfl, hlo, heap_alloc_new W _, hG, hGm, hsz, rfl⟩⟩
theorem grown_drewL {w' : World} {row : Option Nat} (h : w.drew.grownBy w' row) : w.grownBy w' row := ⟨h.os, h.tape, h.output, h.size, h.block⟩
theorem one_flat (h1 : ∀ t u, u ∈ enc t → u.oneCell' = true) (ts : List T) : ∀ v ∈ ts.flatMap enc, v.oneCell' = true := fun v hv => by
  obtain ⟨t, _, ht⟩ := List.mem_flatMap.1 hv
  exact h1 t v ht
end
end Go.Proofs.Ytnejeigcdogolaa
