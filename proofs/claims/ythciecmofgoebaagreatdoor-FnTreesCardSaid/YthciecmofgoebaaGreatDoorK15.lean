
/- append at a step of a region that draws its order; parts of a reading. -/
import Derived.Test.YthciecmofgoebaaGreatDoorK10
import Derived.Deep.RegionHeld3
namespace Go.Proofs.YthciecmofgoebaaGreatDoor
open Go.RowKit
section
variable {T : Type} {enc : T → List Value} {P : Program} {w : World}
theorem step_append_rd {ops : Array Oper} {o : Oper} {a : Act} {K : Act → World → Prop} {Q : Exit → Act → World → Prop} {E : Prop} (hgd : o.guard = none) (s x : Operand) (t : TypeId)
    (ho : o.op = .call { callee := .builtin .append, args := #[s, x], argTypes := #[t, t] })
    (lo : Nat) (e : TypeId) (i : TypeInfo) (z : Value) (size bytes : Nat) (ht : P.underlying t = some (.slice e)) (hi : P.info? e = some i) (hz : i.zero = some z)
    (hsize : i.size = size) (hby : i.bytes = bytes) (hzs : z.cells.size = size) (hsz : 0 < size) (hen : ∀ t, (enc t).length = size) (h1 : ∀ t u, u ∈ enc t → u.oneCell' = true)
    (A : Option Addr) (n c : Nat) (xs : List T) (hs : a.eval s = .slice A n c) (hown : Row w lo e size enc A n c xs) (A' : Option Addr) (m c' : Nat) (ys : List T) (hx : a.eval x = .slice A' m c') (hr : Rd w A' m size (ys.map enc))
    (h63 : n + m ≤ maxLen) (hbytes : (n + m) * bytes ≤ 140737488355328) (hlo : lo ≤ w.heap.size)
    (h : ∀ A2 c2 w', Row w' lo e size enc A2 (n + m) c2 (xs ++ ys) → w.grownBy w' (Value.ownBlock (.slice A n c)) → Moved w A A2 → (0 < m → A2 ≠ none) → K (a.put o.dst (.slice A2 (n + m) c2)) w') :
    if Region.wanted o (yielded ops a.tmps) = true then Oper.wp P o a w K Q else E := by
  obtain ⟨A2, c2, w', hrun, h2, h3, h4, h5⟩ := run_append_rd (P := P) lo t o.type e i z size bytes ht hi hz hsize hby hzs hsz hen h1 A n c xs hown A' m c' ys hr h63 hbytes hlo
  have hw : Region.wanted o (yielded ops a.tmps) = true := by simp [Region.wanted, hgd]
  rw [if_pos hw]
  unfold Oper.wp execOp
  simp only [ho, resolve, invoke, builtin, Sem.run_bind, Sem.run_pure, Result.andThen_ok, List.map_toArray, List.map_cons, List.map_nil, hs, hx, hrun]
  exact h A2 c2 w' h2 h3 h4 h5
theorem Rd.pre {A : Option Addr} {n sz : Nat} {xs : List (List Value)} (h : Rd w A n sz xs) (k : Nat) (hk : k ≤ n) : Rd w A k sz (xs.take k) := by
  refine ⟨by rw [List.length_take, h.len]; omega, fun hn => ?_⟩
  obtain ⟨b, o, hA, hb, hc⟩ := h.at_ (by omega)
  refine ⟨b, o, hA, hb, fun i q cs u hi hq => ?_⟩
  rw [List.getElem?_take] at hi
  split at hi
  · exact hc i q cs u hi hq
  · cases hi
theorem Rd.preM {A : Option Addr} {n sz : Nat} {ts : List T} (h : Rd w A n sz (ts.map enc)) (k : Nat) (hk : k ≤ n) : Rd w A k sz ((ts.take k).map enc) := by
  rw [List.map_take]; exact h.pre k hk
theorem Rd.partM {g off n sz : Nat} {ts : List T} (h : Rd w (some ⟨g, off, none⟩) n sz (ts.map enc)) (j : Nat) (hj : j ≤ n) (off' : Nat) (ho : n - j = 0 ∨ off' = off + j * sz) : Rd w (some ⟨g, off', none⟩) (n - j) sz ((ts.drop j).map enc) := by
  rw [List.map_drop]; exact h.part (A := none) j hj off' ho
theorem Row.ways {lo : Nat} {e : TypeId} {sz : Nat} {A : Option Addr} {n c : Nat} {ts : List T} (h : Row w lo e sz enc A n c ts) : (A = none ∧ n = 0 ∧ c = 0 ∧ ts = []) ∨ ∃ g, A = some ⟨g, 0, none⟩ ∧ lo ≤ g ∧ g < w.heap.size := by
  rcases h.own.2 with ⟨hv, h0⟩ | ⟨g, cap, cur, hv, hlo, hh, _⟩
  · simp only [Value.slice.injEq] at hv
    refine .inl ⟨hv.1, h0, by omega, List.eq_nil_of_length_eq_zero (by rw [h.len]; exact h0)⟩
  · simp only [Value.slice.injEq] at hv
    refine .inr ⟨g, hv.1, hlo, ?_⟩
    rcases Nat.lt_or_ge g w.heap.size with hlt | hge
    · exact hlt
    · rw [Array.getElem?_eq_none hge] at hh; cases hh
end
end Go.Proofs.YthciecmofgoebaaGreatDoor
