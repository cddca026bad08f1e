/- Structs of numbers at which the library is used, The library's Clone and Delete at rows of structs, The library's Clone and Delete at rows of structs: contracts, The library's IndexFunc and DeleteFunc: the plain law of what they leave. -/
import Derived.Test.YtpjljbhodnlhmaaGreatDoorK7
import Derived.Test.YtpjljbhodnlhmaaGreatDoorF
import Derived.Lib.SliceRun
import Derived.StillTailTactics


namespace Go.Proofs.YtpjljbhodnlhmaaGreatDoor
open Go.RowKit
theorem Row.restrict {T : Type} {w : World} {lo : Nat} {e : TypeId} {sz : Nat} {enc : T → List Value} {A : Option Addr} {n c : Nat} {ts : List T} (h : Row w lo e sz enc A n c ts) (hen : ∀ t, (enc t).length = sz) (hA : A ≠ none) {k : Nat} (hk : k ≤ n) :
    Row w lo e sz enc A k c (ts.take k) := by
  have hl := h.len
  have hfl : (ts.take k).flatMap enc = (ts.flatMap enc).take (k * sz) := by
    have h1 : (ts.take k).flatMap enc ++ (ts.drop k).flatMap enc = ts.flatMap enc := by rw [← List.flatMap_append, List.take_append_drop]
    have h2 : ((ts.take k).flatMap enc).length = k * sz := by rw [flat_length hen]; simp; rw [Nat.min_eq_left (by omega)]
    rw [← h1, ← h2, List.take_left]
  refine ⟨⟨by rw [flat_length hen]; simp; rw [Nat.min_eq_left (by omega)], ?_⟩, by simp; omega⟩
  rcases h.own.2 with ⟨hv, _⟩ | ⟨g, cap, cur, hv, hlo, hh, hnc, hcm, hcs, htk⟩
  · simp only [Value.slice.injEq] at hv; exact absurd hv.1 hA
  · simp only [Value.slice.injEq] at hv
    obtain ⟨rfl, _, rfl⟩ := hv
    refine .inr ⟨g, _, cur, rfl, hlo, hh, by omega, hcm, hcs, ?_⟩
    rw [hfl, ← htk, List.take_take, Nat.min_eq_left (Nat.mul_le_mul_right _ hk)]
theorem run_clear_spare {T : Type} {P : Program} {w : World} {lo : Nat} {e t ty : TypeId} {sz : Nat} {enc : T → List Value} {g n c : Nat} {ts : List T} (z : Value) (ht : P.underlying t = some (.slice e)) (hv : ∀ w, (zeroValue e).run P w = .ok z w) (hz : z.cells.size = sz) (h1 : ∀ u ∈ z.cells, u.oneCell' = true)
    (h : Row w lo e sz enc (some ⟨g, 0, none⟩) n c ts) (d c' : Nat) (hd : n + d ≤ c) (o : Nat) (ho : o = n * sz) :
    ∃ w', (Builtin.clear_ #[t] ty #[.slice (some ⟨g, o, none⟩) d c']).run P w = .ok (.tuple #[]) w' ∧ Row w' lo e sz enc (some ⟨g, 0, none⟩) n c ts ∧ w.grownBy w' (some g) := by
  subst ho
  cases d with
  | zero => exact ⟨w, by simp [Builtin.clear_, run_underlying ht], h, World.grownBy.refl _ _⟩
  | succ d =>
    rcases h.own.2 with ⟨hv', _⟩ | ⟨g', cap, cur, hv', hlo, hh, hnc, hcm, hcs, htk⟩
    · simp at hv'
    · simp only [Value.slice.injEq, Option.some.injEq, Addr.mk.injEq, and_true, true_and] at hv'
      obtain ⟨rfl, rfl⟩ := hv'
      have hzs : (Builtin.zeroCells z.cells (d + 1)).toList.length = (d + 1) * sz := by simp [Builtin.zeroCells, hz]
      have hb : (n + (d + 1)) * sz ≤ c * sz := Nat.mul_le_mul_right _ hd
      rw [Nat.add_mul] at hb
      have hone : ∀ v ∈ (Builtin.zeroCells z.cells (d + 1)).toList, v.oneCell' = true := by
        intro v hv2
        simp only [Builtin.zeroCells, Array.toList_map, List.mem_map] at hv2
        obtain ⟨i, hi, rfl⟩ := hv2
        have hi' : i < (d + 1) * z.cells.size := by simpa using hi
        have hpos : 0 < z.cells.size := by
          rcases Nat.eq_zero_or_pos z.cells.size with h0 | h0
          · rw [h0] at hi'; omega
          · exact h0
        have hm := Nat.mod_lt i hpos
        apply h1
        simp only [Array.getElem!_eq_getD, Array.getD, hm, dif_pos]
        exact Array.getElem_mem hm
      have hst := run_storeCells_at (P := P) g (n * sz) e (Builtin.zeroCells z.cells (d + 1)).toList 0 cur w hh (by rw [hzs, hcs]; omega) hone
      refine ⟨_, by simp [Builtin.clear_, run_underlying ht, hv, hst]; rfl, ⟨⟨h.own.1, .inr ⟨g, c, _, rfl, hlo, setRow_heap w g cur _ e _ hh, hnc, hcm, ?_, ?_⟩⟩, h.len⟩, ⟨rfl, rfl, rfl, by simp, fun k _ hk => setRow_other w g k _ (fun he => hk (by simp [he]))⟩⟩
      · have hzs' : (Builtin.zeroCells z.cells (d + 1)).size = (d + 1) * sz := by rw [← hzs]; simp
        simp only [Nat.add_zero, List.size_toArray, List.length_append, List.length_take, List.length_drop, Array.length_toList, hzs']
        rw [Nat.min_eq_left (by omega)]
        omega
      · simp only [Nat.add_zero]
        rw [List.take_append_of_le_length (by simp; omega), List.take_take, Nat.min_self, htk]
section
variable {T : Type} {enc : T → List Value} {P : Program} {w : World}
theorem Rd.part {A : Option Addr} {n sz : Nat} {xs : List (List Value)} {g off : Nat} (h : Rd w (some ⟨g, off, none⟩) n sz xs) (j : Nat) (hj : j ≤ n) (off' : Nat) (ho : n - j = 0 ∨ off' = off + j * sz) : Rd w (some ⟨g, off', none⟩) (n - j) sz (xs.drop j) := by
  refine ⟨by rw [List.length_drop, h.len], fun hn => ?_⟩
  obtain ⟨b, o, hA, hb, hc⟩ := h.at_ (by omega)
  simp only [Option.some.injEq, Addr.mk.injEq, and_true] at hA
  obtain ⟨rfl, rfl⟩ := hA
  refine ⟨g, off', rfl, hb, fun k q cs u hk hq => ?_⟩
  rw [List.getElem?_drop] at hk
  rw [← hc (j + k) q cs u hk hq]
  have : off' = off + j * sz := by omega
  rw [this, Nat.add_mul]
  congr 2; omega
/-- 'append(s[:i], s[j:]...)', within the row. -/
theorem wpList_append_within {ops : Array Oper} {rest : List Oper} {o : Oper} {a : Act} {Q : Exit → Act → World → Prop} (hgd : o.guard = none) (s x : Operand) (t : TypeId)
    (ho : o.op = .call { callee := .builtin .append, args := #[s, x], argTypes := #[t, t] }) (lo : Nat) (e : TypeId) (i0 : TypeInfo) (size : Nat) (ht : P.underlying t = some (.slice e)) (hi : P.info? e = some i0)
    (hsize : i0.size = size) (hsz : 0 < size) (hen : ∀ t, (enc t).length = size) (h1 : ∀ t u, u ∈ enc t → u.oneCell' = true)
    (g n c : Nat) (ts : List T) (hrow : Row w lo e size enc (some ⟨g, 0, none⟩) n c ts) (i j : Nat) (hij : i ≤ j) (hjn : j ≤ n) (hs : a.eval s = .slice (some ⟨g, 0, none⟩) i c)
    (off m c' : Nat) (hx : a.eval x = .slice (some ⟨g, off, none⟩) m c') (hm : m = n - j) (hoff : n - j = 0 ∨ off = j * size)
    (h : ∀ w', Row w' lo e size enc (some ⟨g, 0, none⟩) (i + (n - j)) c (ts.take i ++ ts.drop j) → w.grownBy w' (some g) → wpList P ops Q rest (a.put o.dst (.slice (some ⟨g, 0, none⟩) (i + (n - j)) c)) w') : wpList P ops Q (o :: rest) a w := by
  subst hm
  have ⟨hnc, _⟩ := hrow.caps
  have hl := hrow.len
  have r1 := hrow.restrict hen (by simp) (show i ≤ n by omega)
  have rd := (hrow.rd hen)
  have rp : Rd w (some ⟨g, off, none⟩) (n - j) size ((ts.drop j).map enc) := by
    rw [List.map_drop]
    exact rd.part (A := none) j hjn off (by rw [Nat.zero_add]; exact hoff)
  have hfl := flat_length hen (ts.drop j)
  have hdl : (ts.drop j).length = n - j := by simp; omega
  have hnews : ∀ k u, ((ts.drop j).flatMap enc)[k]? = some u → w.cell? ((⟨g, off, none⟩ : Addr).add k) = some u := fun k u hk => by
    have hkl : k < (ts.drop j).length * size := by rw [← hfl]; exact (List.getElem?_eq_some_iff.1 hk).1
    have hpos : 0 < n - j := by
      rcases Nat.eq_zero_or_pos (n - j) with h0 | h0
      · rw [hdl, h0] at hkl; omega
      · exact h0
    obtain ⟨b, o', hA, _, hc⟩ := rp.at_ hpos
    simp only [Option.some.injEq, Addr.mk.injEq, and_true] at hA
    obtain ⟨rfl, rfl⟩ := hA
    have hk2 : k / size < (ts.drop j).length := (Nat.div_lt_iff_lt_mul hsz).2 hkl
    have hj2 : k % size < size := Nat.mod_lt _ hsz
    have e1 : k / size * size + k % size = k := by rw [Nat.mul_comm]; exact Nat.div_add_mod k size
    have h2 := flat_get hen (ts.drop j) (k / size) (k % size) _ (List.getElem?_eq_getElem hk2) hj2
    rw [e1, hk] at h2
    have h3 := hc (k / size) (k % size) (enc (ts.drop j)[k / size]) u (by rw [List.getElem?_map, List.getElem?_eq_getElem hk2]; rfl) h2.symm
    rw [← h3]
    congr 1
    unfold Addr.add
    split
    · simp only [Addr.mk.injEq, and_true, true_and]; omega
    · simp only [Addr.mk.injEq, and_true, true_and]; omega
  obtain ⟨w', hrun, h2, h3⟩ := run_append_fits (P := P) (w := w) lo t o.type e i0 size ht hi hsize g i c _ r1.own ⟨g, off, none⟩ (n - j) c' _ (by rw [hfl, hdl]) hnews (by
    intro u hu
    obtain ⟨t, _, htu⟩ := List.mem_flatMap.1 hu
    exact h1 t u htu) (by omega)
  refine wpList_plain hgd fun K hK => ?_
  unfold Oper.wp execOp
  simp only [ho, resolve, invoke, builtin, Sem.run_bind, Sem.run_pure, Result.andThen_ok, List.map_toArray, List.map_cons, List.map_nil, hs, hx, hrun]
  exact hK _ _ (h w' ⟨by rw [List.flatMap_append]; exact h2, by simp; omega⟩ h3)
/-- 'clear(s[len(s):m])'. -/
theorem wpList_clear_spare {ops : Array Oper} {rest : List Oper} {o : Oper} {a : Act} {Q : Exit → Act → World → Prop} (hgd : o.guard = none) (x : Operand) (t : TypeId)
    (ho : o.op = .call { callee := .builtin .clear, args := #[x], argTypes := #[t] }) (lo : Nat) (e : TypeId) (size : Nat) (z : Value) (ht : P.underlying t = some (.slice e)) (hv : ∀ w, (zeroValue e).run P w = .ok z w) (hz : z.cells.size = size) (h1 : ∀ u ∈ z.cells, u.oneCell' = true)
    (g n c : Nat) (ts : List T) (hrow : Row w lo e size enc (some ⟨g, 0, none⟩) n c ts) (off d c' : Nat) (hx : a.eval x = .slice (some ⟨g, off, none⟩) d c') (hd : n + d ≤ c) (hoff : off = n * size)
    (h : ∀ w', Row w' lo e size enc (some ⟨g, 0, none⟩) n c ts → w.grownBy w' (some g) → wpList P ops Q rest (a.put o.dst (.tuple #[])) w') : wpList P ops Q (o :: rest) a w := by
  obtain ⟨w', hrun, h2, h3⟩ := run_clear_spare (P := P) (ty := o.type) z ht hv hz h1 hrow d c' hd off hoff
  refine wpList_plain hgd fun K hK => ?_
  unfold Oper.wp execOp
  simp only [ho, resolve, invoke, builtin, Sem.run_bind, Sem.run_pure, Result.andThen_ok, List.map_toArray, List.map_cons, List.map_nil, hx, hrun]
  exact hK _ _ (h w' h2 h3)
end
end Go.Proofs.YtpjljbhodnlhmaaGreatDoor

namespace Go.Proofs.YtpjljbhodnlhmaaGreatDoor
open Go.RowKit
theorem oneRequest : ∀ (t : Request) (u : Value), u ∈ t.cells → u.oneCell' = true := by
  intro t u hu
  simp only [Request.cells, List.mem_cons, List.not_mem_nil, or_false] at hu
  rcases hu with rfl | rfl | rfl | rfl <;> rfl
theorem append_Request {w0 : World} {lo : Nat} {ops : Array Oper} {rest : List Oper} {o : Oper} {a : Act} {Q : Exit → Act → World → Prop} (hgd : o.guard = none) (s x : Operand)
    (ho : o.op = .call { callee := .builtin .append, args := #[s, x], argTypes := #[94, 94] }) (A : Option Addr) (n c : Nat) (xs : List Request) (hs : a.eval s = .slice A n c) (hown : Row w0 lo 151 4 Request.cells A n c xs) (y : Request)
    (cs : Array Value) (hcs : y.cells = cs.toList) (B : Nat) (hx : a.eval x = .slice (some ⟨B, 0, none⟩) 1 1) (hB : w0.heap.size = B) (hn : n < 1000000) (hlo : lo ≤ w0.heap.size)
    (h : ∀ A2 c2 w', Row w' lo 151 4 Request.cells A2 (n + 1) c2 (xs ++ [y]) → w0.grownBy w' (Value.ownBlock (.slice A n c)) → (∃ x, A2 = some x ∧ (w0.heap.size < x.block ∨ ∃ y, A = some y ∧ x.block = y.block)) → wpList Tryz.prog ops Q rest (a.put o.dst (.slice A2 (n + 1) c2)) w') : wpList Tryz.prog ops Q (o :: rest) a (w0.alloc (.cells cs 151)) := by
  subst hB
  obtain ⟨i0, hi, hz0, hz1, hz2⟩ := info_parts infoRequest
  refine wpList_append_rd (enc := Request.cells) hgd s x 94 ho lo 151 i0 _ 4 32 Tryz.underlying94 hi hz0 hz1 hz2 rfl (by decide) (fun _ => rfl) oneRequest A n c xs hs (hown.keep (Bw.alloc (Bw.refl _) _)) _ 1 1 [y] hx (Rd.one _ _ _ _ 4 hcs) (by unfold maxLen; omega) (by omega) (by simp; omega) ?_
  intro A2 c2 w' h1 h2 h3 h4
  refine h A2 c2 w' h1 ((World.grownBy_alloc w0 _ _).trans h2) ?_
  rcases h3 with h3 | ⟨x, hx, h5 | h5⟩
  · cases hA : A2 with
    | none => exact absurd hA (h4 (by omega))
    | some x => exact ⟨x, rfl, .inr ⟨x, by rw [← h3]; exact hA, rfl⟩⟩
  · exact ⟨x, hx, .inl (by rw [h5]; simp)⟩
  · exact ⟨x, hx, .inr h5⟩
end Go.Proofs.YtpjljbhodnlhmaaGreatDoor

namespace Go.Proofs.YtpjljbhodnlhmaaGreatDoor
open Go.RowKit
def idxP {T : Type} (p : T → Bool) (ts : List T) : Nat := ts.findIdx p
def idxPI {T : Type} (p : T → Bool) (ts : List T) : Int := if idxP p ts < ts.length then (idxP p ts : Int) else -1
theorem idxP_le {T : Type} (p : T → Bool) (ts : List T) : idxP p ts ≤ ts.length := List.findIdx_le_length
theorem idxP_not {T : Type} {p : T → Bool} {ts : List T} {j : Nat} (h : j < idxP p ts) (hj : j < ts.length) : p ts[j] = false := by
  have := List.not_of_lt_findIdx h
  simpa using this
theorem idxP_is {T : Type} {p : T → Bool} {ts : List T} (h : idxP p ts < ts.length) : p ts[idxP p ts] = true := List.findIdx_getElem (w := h)
theorem idxP_eq {T : Type} {p : T → Bool} {ts : List T} {k : Nat} (hk : k < ts.length) (hid : p ts[k] = true) (hn : ∀ j (hj : j < k), p (ts[j]'(by omega)) = false) : idxP p ts = k := by
  rcases Nat.lt_trichotomy (idxP p ts) k with h | h | h
  · have h1 := idxP_is (p := p) (ts := ts) (by omega)
    rw [hn _ h] at h1; cases h1
  · exact h
  · have h1 := idxP_not h hk
    rw [hid] at h1; cases h1
theorem idxP_none {T : Type} {p : T → Bool} {ts : List T} (hn : ∀ j (hj : j < ts.length), p ts[j] = false) : idxP p ts = ts.length := by
  rcases Nat.lt_or_ge (idxP p ts) ts.length with h | h
  · have h1 := idxP_is h
    rw [hn _ h] at h1; cases h1
  · exact Nat.le_antisymm (idxP_le _ _) h
/-- What is left behind a DeleteFunc. -/
def leave {T : Type} (p : T → Bool) (ts : List T) : List T := ts.filter (fun t => !p t)
theorem leave_all {T : Type} {p : T → Bool} {ts : List T} (h : idxP p ts = ts.length) : leave p ts = ts := by
  unfold leave
  rw [List.filter_eq_self]
  intro t ht
  obtain ⟨j, hj, rfl⟩ := List.mem_iff_getElem.1 ht
  rw [idxP_not (p := p) (ts := ts) (by omega) hj]; rfl
theorem leave_take {T : Type} {p : T → Bool} {ts : List T} {k : Nat} (h : k ≤ idxP p ts) : leave p (ts.take k) = ts.take k := by
  unfold leave
  rw [List.filter_eq_self]
  intro t ht
  obtain ⟨j, hj, rfl⟩ := List.mem_iff_getElem.1 ht
  simp at hj
  rw [List.getElem_take, idxP_not (p := p) (ts := ts) (by omega) (by omega)]; rfl
/-- The state of DeleteFunc's loop: j elements have been seen. -/
structure DelSt {T : Type} (p : T → Bool) (ts xs : List T) (i j : Nat) : Prop where
  le : i < j
  jn : j ≤ ts.length
  len : (leave p (ts.take j)).length = i
  ex : ∃ mid : List T, mid.length = j - i ∧ xs = leave p (ts.take j) ++ mid ++ ts.drop j
theorem DelSt.start {T : Type} {p : T → Bool} {ts : List T} (h : idxP p ts < ts.length) : DelSt p ts ts (idxP p ts) (idxP p ts + 1) := by
  have e1 : leave p (ts.take (idxP p ts + 1)) = ts.take (idxP p ts) := by
    have h1 := leave_take (p := p) (ts := ts) (Nat.le_refl _)
    unfold leave at h1 ⊢
    rw [filt_no _ ts _ h (by rw [idxP_is h]; rfl), h1]
  refine ⟨by omega, h, by rw [e1]; simp; omega, [ts[idxP p ts]], by simp, ?_⟩
  rw [e1, List.append_assoc]
  have : [ts[idxP p ts]] ++ ts.drop (idxP p ts + 1) = ts.drop (idxP p ts) := by rw [List.singleton_append, List.getElem_cons_drop]
  rw [this, List.take_append_drop]
theorem DelSt.at_ {T : Type} {p : T → Bool} {ts xs : List T} {i j : Nat} (h : DelSt p ts xs i j) (hj : j < ts.length) : xs.length = ts.length ∧ xs[j]? = some ts[j] := by
  obtain ⟨mid, hm, rfl⟩ := h.ex
  have h1 := h.len
  have h2 := h.le
  refine ⟨by simp; omega, ?_⟩
  rw [List.getElem?_append_right (by simp; omega)]
  have : j - (leave p (ts.take j) ++ mid).length = 0 := by simp; omega
  rw [this, List.getElem?_drop, Nat.add_zero, List.getElem?_eq_getElem hj]
theorem DelSt.skip {T : Type} {p : T → Bool} {ts xs : List T} {i j : Nat} (h : DelSt p ts xs i j) (hj : j < ts.length) (hp : p ts[j] = true) : DelSt p ts xs i (j + 1) := by
  obtain ⟨mid, hm, rfl⟩ := h.ex
  have e1 : leave p (ts.take (j + 1)) = leave p (ts.take j) := by unfold leave; rw [filt_no _ ts j hj (by rw [hp]; rfl)]
  have h2 := h.le
  refine ⟨by omega, hj, by rw [e1]; exact h.len, mid ++ [ts[j]], by simp; omega, ?_⟩
  rw [e1, List.drop_eq_getElem_cons hj]; simp
theorem DelSt.keep {T : Type} {p : T → Bool} {ts xs : List T} {i j : Nat} (h : DelSt p ts xs i j) (hj : j < ts.length) (hp : p ts[j] = false) : DelSt p ts (xs.set i ts[j]) (i + 1) (j + 1) := by
  obtain ⟨mid, hm, rfl⟩ := h.ex
  have h1 := h.len
  have h2 := h.le
  have e1 : leave p (ts.take (j + 1)) = leave p (ts.take j) ++ [ts[j]] := by unfold leave; rw [filt_yes _ ts j hj (by rw [hp]; rfl)]
  match mid, hm with
  | [], hm => simp at hm; omega
  | m :: mid, hm =>
    refine ⟨by omega, hj, by rw [e1]; simp [h1], mid ++ [ts[j]], by simp at hm ⊢; omega, ?_⟩
    rw [e1, List.append_assoc, List.set_append_right _ _ (by omega), h1, Nat.sub_self, List.cons_append, List.set_cons_zero, List.drop_eq_getElem_cons hj]
    simp
theorem DelSt.done {T : Type} {p : T → Bool} {ts xs : List T} {i : Nat} (h : DelSt p ts xs i ts.length) : xs.take i = leave p ts ∧ (leave p ts).length = i ∧ xs.length = ts.length := by
  obtain ⟨mid, hm, rfl⟩ := h.ex
  have h1 := h.len
  have h2 := h.le
  rw [List.take_of_length_le (Nat.le_refl _)] at h1 ⊢
  refine ⟨?_, h1, by simp; omega⟩
  rw [List.append_assoc, ← h1, List.take_left]
end Go.Proofs.YtpjljbhodnlhmaaGreatDoor
