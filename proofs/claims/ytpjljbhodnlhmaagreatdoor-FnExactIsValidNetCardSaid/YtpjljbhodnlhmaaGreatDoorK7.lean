
/- append onto a row of the call's own, whatever the source. -/
import Derived.Test.YtpjljbhodnlhmaaGreatDoorK3
import Derived.Maps.AppendAt
import Derived.OwnWalk
namespace Go.Proofs.YtpjljbhodnlhmaaGreatDoor
open Go.RowKit
theorem run_append_of_nil {P : Program} {w : World} (base : Nat) (t ty e : TypeId) (i : TypeInfo) (size : Nat) (ht : P.underlying t = some (.slice e)) (hi : P.info? e = some i)
    (v : Value) (n : Nat) (xs : List Value) (hown : w.ownsRow base e size v n xs) (c : Nat) : (Builtin.append_ #[t, t] ty #[v, .slice none 0 c]).run P w = .ok v w := by
  rcases hown.2 with ⟨rfl, rfl⟩ | ⟨g, cap, cur, rfl, _, _, hnc, _⟩
  · simp [Builtin.append_, run_underlying ht, sizeOf, typeInfo, hi, Builtin.lenOf, Builtin.firstCells]
  · simp [Builtin.append_, run_underlying ht, sizeOf, typeInfo, hi, Builtin.lenOf, Builtin.firstCells, hnc, storeCells]
/-- Where the row lies behind an append: where it lay, or in the newest block. -/
def Moved (w : World) (A A2 : Option Addr) : Prop := A2 = A ∨ ∃ x, A2 = some x ∧ (x.block = w.heap.size ∨ ∃ y, A = some y ∧ x.block = y.block)
section
variable {T : Type} {enc : T → List Value} {P : Program} {w : World}
theorem run_append_rd (lo : Nat) (t ty e : TypeId) (i : TypeInfo) (z : Value) (size bytes : Nat) (ht : P.underlying t = some (.slice e)) (hi : P.info? e = some i) (hz : i.zero = some z)
    (hsize : i.size = size) (hby : i.bytes = bytes) (hzs : z.cells.size = size) (hsz : 0 < size) (hen : ∀ t, (enc t).length = size) (h1 : ∀ t u, u ∈ enc t → u.oneCell' = true)
    (A : Option Addr) (n c : Nat) (xs : List T) (hown : Row w lo e size enc A n c xs) (A' : Option Addr) (m c' : Nat) (ys : List T) (hr : Rd w A' m size (ys.map enc))
    (h63 : n + m ≤ maxLen) (hbytes : (n + m) * bytes ≤ 140737488355328) (hlo : lo ≤ w.heap.size) :
    ∃ A2 c2 w', (Builtin.append_ #[t, t] ty #[.slice A n c, .slice A' m c']).run P w = .ok (.slice A2 (n + m) c2) w' ∧ Row w' lo e size enc A2 (n + m) c2 (xs ++ ys) ∧ w.grownBy w' (Value.ownBlock (.slice A n c)) ∧ Moved w A A2 ∧ (0 < m → A2 ≠ none) := by
  have hyl : ys.length = m := by simpa using hr.len
  have hxl := hown.len
  cases A' with
  | none =>
    have hm : m = 0 := by
      rcases Nat.eq_zero_or_pos m with h0 | h0
      · exact h0
      · obtain ⟨b, off, h, _⟩ := hr.at_ h0; cases h
    subst hm
    obtain rfl : ys = [] := List.eq_nil_of_length_eq_zero hyl
    exact ⟨A, c, w, run_append_of_nil lo t ty e i size ht hi _ n _ hown.own c', by simpa using hown, World.grownBy.refl _ _, .inl rfl, fun h => absurd h (by omega)⟩
  | some ad =>
    have hl := flat_length hen ys
    have hnews : ∀ j u, (ys.flatMap enc)[j]? = some u → w.cell? (ad.add j) = some u := fun j u hj => by
      have hjl : j < ys.length * size := by rw [← hl]; exact (List.getElem?_eq_some_iff.1 hj).1
      have hm : 0 < m := by
        rcases Nat.eq_zero_or_pos m with h0 | h0
        · subst h0; rw [hyl] at hjl; omega
        · exact h0
      obtain ⟨b, off, hA, _, hc⟩ := hr.at_ hm
      simp only [Option.some.injEq] at hA
      subst hA
      have hk : j / size < ys.length := (Nat.div_lt_iff_lt_mul hsz).2 hjl
      have hj2 : j % size < size := Nat.mod_lt _ hsz
      have e1 : j / size * size + j % size = j := by rw [Nat.mul_comm]; exact Nat.div_add_mod j size
      have h2 := flat_get hen ys (j / size) (j % size) ys[j / size] (List.getElem?_eq_getElem hk) hj2
      rw [e1, hj] at h2
      have h3 := hc (j / size) (j % size) (enc ys[j / size]) u (by simp [hk]) h2.symm
      rw [← h3]
      congr 1
      unfold Addr.add
      split
      · simp only [Addr.mk.injEq, and_true, true_and]; omega
      · simp only [Addr.mk.injEq, and_true, true_and]; omega
    have hone : ∀ u ∈ ys.flatMap enc, u.oneCell' = true := fun u hu => by
      obtain ⟨t, _, ht⟩ := List.mem_flatMap.1 hu
      exact h1 t u ht
    obtain ⟨v', w', hrun, h2, h3, h4, h5⟩ := run_append_own_at (P := P) w lo t ty e i z size bytes ht hi hz hsize hby hzs hsz _ n _ hown.own ad m c' _ (by rw [hl, hyl]) hnews hone h63 hbytes hlo
    have hform : ∃ A2 c2, v' = .slice A2 (n + m) c2 := by
      rcases h2.2 with ⟨hv, h0⟩ | ⟨g, cap, cur, hv, _⟩
      · exact ⟨none, 0, by rw [hv, h0]⟩
      · exact ⟨_, _, hv⟩
    obtain ⟨A2, c2, rfl⟩ := hform
    refine ⟨A2, c2, w', hrun, ⟨by rw [List.flatMap_append]; exact h2, by simp; omega⟩, h3, ?_, fun hm hA2 => ?_⟩
    · cases A2 with
      | none =>
        left
        rcases h5 with h5 | h5
        · cases A with
          | none => rfl
          | some y => simp [Value.ownBlock] at h5
        · simp [Value.ownBlock] at h5
      | some x =>
        right
        refine ⟨x, rfl, ?_⟩
        rcases h5 with h5 | h5
        · cases A with
          | none => simp [Value.ownBlock] at h5
          | some y => right; exact ⟨y, rfl, by simpa [Value.ownBlock] using h5⟩
        · left; simpa [Value.ownBlock] using h5
    · subst hA2
      obtain ⟨g, cap, hv, _⟩ := h2.form (by omega)
      simp at hv
theorem wpList_append_rd {ops : Array Oper} {rest : List Oper} {o : Oper} {a : Act} {Q : Exit → Act → World → Prop} (hgd : o.guard = none) (s x : Operand) (t : TypeId)
    (ho : o.op = .call { callee := .builtin .append, args := #[s, x], argTypes := #[t, t] })
    (lo : Nat) (e : TypeId) (i : TypeInfo) (z : Value) (size bytes : Nat) (ht : P.underlying t = some (.slice e)) (hi : P.info? e = some i) (hz : i.zero = some z)
    (hsize : i.size = size) (hby : i.bytes = bytes) (hzs : z.cells.size = size) (hsz : 0 < size) (hen : ∀ t, (enc t).length = size) (h1 : ∀ t u, u ∈ enc t → u.oneCell' = true)
    (A : Option Addr) (n c : Nat) (xs : List T) (hs : a.eval s = .slice A n c) (hown : Row w lo e size enc A n c xs) (A' : Option Addr) (m c' : Nat) (ys : List T) (hx : a.eval x = .slice A' m c') (hr : Rd w A' m size (ys.map enc))
    (h63 : n + m ≤ maxLen) (hbytes : (n + m) * bytes ≤ 140737488355328) (hlo : lo ≤ w.heap.size)
    (h : ∀ A2 c2 w', Row w' lo e size enc A2 (n + m) c2 (xs ++ ys) → w.grownBy w' (Value.ownBlock (.slice A n c)) → Moved w A A2 → (0 < m → A2 ≠ none) → wpList P ops Q rest (a.put o.dst (.slice A2 (n + m) c2)) w') : wpList P ops Q (o :: rest) a w := by
  obtain ⟨A2, c2, w', hrun, h2, h3, h4, h5⟩ := run_append_rd (P := P) lo t o.type e i z size bytes ht hi hz hsize hby hzs hsz hen h1 A n c xs hown A' m c' ys hr h63 hbytes hlo
  refine wpList_plain hgd fun K hK => ?_
  unfold Oper.wp execOp
  simp only [ho, resolve, invoke, builtin, Sem.run_bind, Sem.run_pure, Result.andThen_ok, List.map_toArray, List.map_cons, List.map_nil, hs, hx, hrun]
  exact hK _ _ (h A2 c2 w' h2 h3 h4 h5)
theorem Bw.ofRow {a b c : World} {A : Option Addr} {n cp : Nat} (h : Bw a b) (hg : b.grownBy c (Value.ownBlock (.slice A n cp))) (hA : ∀ x, A = some x → a.heap.size ≤ x.block) : Bw a c :=
  h.grown hg (fun k hk => by
    cases A with
    | none => simp [Value.ownBlock] at hk
    | some x => simp [Value.ownBlock] at hk; subst hk; exact hA x rfl)
theorem _root_.Go.World.grownBy.weaken {a b : World} {row : Option Nat} (h : a.grownBy b none) : a.grownBy b row := ⟨h.os, h.tape, h.output, h.size, fun k hk _ => h.block k hk (by simp)⟩
/-- One element, that lies in the newest block. -/
theorem Rd.one (w : World) (cs : Array Value) (t : TypeId) (x : T) (size : Nat) (hx : enc x = cs.toList) : Rd (w.alloc (.cells cs t)) (some ⟨w.heap.size, 0, none⟩) 1 size ([x].map enc) := by
  refine ⟨rfl, fun _ => ⟨_, _, rfl, by simp, fun k j l u hk hj => ?_⟩⟩
  match k with
  | 0 =>
    simp at hk; subst hk
    have := cell_of_row (w.alloc (.cells cs t)) w.heap.size j cs t (0, 0) (heap_alloc_new w _)
    simp only [Nat.zero_mul, Nat.zero_add, Nat.add_zero] at *
    rw [this, ← hj, hx]; simp
  | k + 1 => simp at hk
theorem Row.one (w : World) (cs : Array Value) (e : TypeId) (size : Nat) (x : T) (hx : enc x = cs.toList) (hs : cs.size = size) : Row (w.alloc (.cells cs e)) w.heap.size e size enc (some ⟨w.heap.size, 0, none⟩) 1 1 [x] := by
  refine ⟨?_, rfl⟩
  have := World.ownsRow_lit (base := w.heap.size) (e := e) (size := size) w cs 1 (Nat.le_refl _) (by unfold maxLen; omega) (by omega)
  simpa [hx] using this
theorem Row.empty (w : World) (lo : Nat) (e : TypeId) (size : Nat) (enc : T → List Value) (hlo : lo ≤ w.heap.size) : Row (w.alloc (.cells #[] e)) lo e size enc (some ⟨w.heap.size, 0, none⟩) 0 0 [] := by
  refine ⟨?_, rfl⟩
  have := World.ownsRow_lit (base := lo) (e := e) (size := size) w #[] 0 hlo (by unfold maxLen; omega) (by simp)
  simpa using this
end
end Go.Proofs.YtpjljbhodnlhmaaGreatDoor
