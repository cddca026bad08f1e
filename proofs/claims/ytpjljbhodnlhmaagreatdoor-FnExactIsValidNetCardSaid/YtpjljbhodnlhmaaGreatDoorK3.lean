
/- Rows of elements in memory of the call's own; lists of cells. -/
import Derived.Test.YtpjljbhodnlhmaaGreatDoorK0
import Derived.Deep.AppendLies
import Derived.Maps.AppendAt
namespace Go.Proofs.YtpjljbhodnlhmaaGreatDoor
open Go.RowKit

theorem snoc_lt {p : Nat → Prop} {k : Nat} (h : ∀ j, j < k → p j) (hk : p k) : ∀ j, j < k + 1 → p j := fun j hj => by
  rcases Nat.lt_succ_iff_lt_or_eq.1 hj with h1 | rfl
  · exact h j h1
  · exact hk
def allB (f : Nat → Bool) (n : Nat) : Bool := (List.range n).all f
theorem allB_true {f : Nat → Bool} {n : Nat} (h : ∀ j, j < n → f j = true) : allB f n = true := by
  simp only [allB, List.all_eq_true, List.mem_range]; exact h
theorem allB_false {f : Nat → Bool} {n k : Nat} (hk : k < n) (h : f k = false) : allB f n = false := by
  simp only [allB, List.all_eq_false, List.mem_range]; exact ⟨k, hk, by simp [h]⟩
theorem allB_elim {f : Nat → Bool} {n : Nat} (h : allB f n = true) : ∀ j, j < n → f j = true := by
  simpa only [allB, List.all_eq_true, List.mem_range] using h

section
variable {T : Type} {enc : T → List Value} {sz : Nat}
theorem flat_length (hs : ∀ t, (enc t).length = sz) (ts : List T) : (ts.flatMap enc).length = ts.length * sz := by
  induction ts with
  | nil => simp
  | cons t ts ih => simp [ih, hs, Nat.add_mul]; omega
theorem flat_get (hs : ∀ t, (enc t).length = sz) (ts : List T) (k j : Nat) (t : T) (hk : ts[k]? = some t) (hj : j < sz) : (ts.flatMap enc)[k * sz + j]? = (enc t)[j]? := by
  induction ts generalizing k with
  | nil => simp at hk
  | cons x ts ih =>
    cases k with
    | zero =>
      simp at hk; subst hk
      simp only [List.flatMap_cons, Nat.zero_mul, Nat.zero_add]
      rw [List.getElem?_append_left (by rw [hs]; exact hj)]
    | succ k =>
      simp at hk
      simp only [List.flatMap_cons]
      rw [List.getElem?_append_right (by rw [hs, Nat.succ_mul]; omega), hs]
      rw [← ih k hk]
      congr 1
      rw [Nat.succ_mul]; omega
theorem flat_set (hs : ∀ t, (enc t).length = sz) (ts : List T) (k : Nat) (t : T) (hk : k < ts.length) :
    (ts.set k t).flatMap enc = (ts.flatMap enc).take (k * sz) ++ enc t ++ (ts.flatMap enc).drop (k * sz + sz) := by
  induction ts generalizing k with
  | nil => simp at hk
  | cons x ts ih =>
    cases k with
    | zero =>
      simp only [List.set_cons_zero, List.flatMap_cons, Nat.zero_mul, List.take_zero, List.nil_append, Nat.zero_add]
      have h1 := List.drop_left (l₁ := enc x) (l₂ := ts.flatMap enc)
      rw [hs] at h1
      rw [h1]
    | succ k =>
      simp only [List.set_cons_succ, List.flatMap_cons]
      rw [ih k (by simpa using hk)]
      have e1 : (k + 1) * sz = (enc x).length + k * sz := by rw [hs, Nat.succ_mul]; omega
      have e2 : (k + 1) * sz + sz = (enc x).length + (k * sz + sz) := by omega
      rw [e2, e1, List.take_length_add_append, List.drop_length_add_append]
      simp [List.append_assoc]
end
theorem set3_at (P S : List Value) (x y z a b c : Value) : (((P ++ x :: y :: z :: S).set P.length a).set (P.length + 1) b).set (P.length + 2) c = P ++ a :: b :: c :: S := by
  rw [List.set_append_right _ _ (Nat.le_refl _), Nat.sub_self, List.set_cons_zero, List.set_append_right _ _ (by omega), List.set_append_right _ _ (by omega)]
  simp [Nat.add_sub_cancel_left]
theorem set3 (l : List Value) (k : Nat) (a b c : Value) (h : k * 3 + 3 ≤ l.length) :
    ((l.set (k * 3) a).set (k * 3 + 1) b).set (k * 3 + 2) c = l.take (k * 3) ++ [a, b, c] ++ l.drop (k * 3 + 3) := by
  have hP : (l.take (k * 3)).length = k * 3 := by simp; omega
  obtain ⟨x, y, z, S, hS⟩ : ∃ x y z S, l.drop (k * 3) = x :: y :: z :: S := by
    match hd : l.drop (k * 3) with
    | x :: y :: z :: S => exact ⟨x, y, z, S, rfl⟩
    | [] => have := congrArg List.length hd; simp at this; omega
    | [_] => have := congrArg List.length hd; simp at this; omega
    | [_, _] => have := congrArg List.length hd; simp at this; omega
  have hl : l = l.take (k * 3) ++ x :: y :: z :: S := by rw [← hS, List.take_append_drop]
  have h3 : l.drop (k * 3 + 3) = S := by rw [← List.drop_drop, hS]; rfl
  rw [h3]
  have := set3_at (l.take (k * 3)) S x y z a b c
  rw [← hl, hP] at this
  rw [this]; simp
theorem madeCells_flat (z : Array Value) (hz : 0 < z.size) (n : Nat) : (madeCells z (n * z.size)).toList = (List.replicate n z.toList).flatten := by
  apply List.ext_getElem?
  intro i
  have hlen : ((List.replicate n z.toList).flatten).length = n * z.size := by simp
  rcases Nat.lt_or_ge i (n * z.size) with h | h
  · have h1 : i / z.size < n := (Nat.div_lt_iff_lt_mul hz).2 h
    have h2 : i % z.size < z.size := Nat.mod_lt _ hz
    have := flat_get (enc := id) (sz := z.size) (ts := List.replicate n z.toList) 
    have key : ∀ (m k j : Nat), k < m → j < z.size → ((List.replicate m z.toList).flatten)[k * z.size + j]? = z[j]? := by
      intro m
      induction m with
      | zero => intro k j hk; omega
      | succ m ih =>
        intro k j hk hj
        simp only [List.replicate_succ, List.flatten_cons]
        cases k with
        | zero => rw [Nat.zero_mul, Nat.zero_add, List.getElem?_append_left (by simpa using hj)]; simp
        | succ k =>
          rw [List.getElem?_append_right (by rw [Nat.succ_mul]; simp; omega), ← ih k j (by omega) hj]
          congr 1
          rw [Nat.succ_mul]; simp; omega
    have e : i = i / z.size * z.size + i % z.size := by rw [Nat.mul_comm]; exact (Nat.div_add_mod i z.size).symm
    have hk := key n (i / z.size) (i % z.size) h1 h2
    rw [← e] at hk
    rw [hk]
    simp [madeCells, h]
    rw [Array.getElem?_eq_getElem h2, Array.getElem!_eq_getD]
    simp [h2]
  · rw [List.getElem?_eq_none (by simpa [madeCells] using h), List.getElem?_eq_none (by omega)]

theorem filt_succ {T : Type} (p : T → Bool) (ts : List T) (k : Nat) (hk : k < ts.length) : (ts.take (k + 1)).filter p = (ts.take k).filter p ++ (if p ts[k] = true then [ts[k]] else []) := by
  rw [List.take_succ_eq_append_getElem hk, List.filter_append]
  congr 1
  simp [List.filter_cons]
theorem filt_yes {T : Type} (p : T → Bool) (ts : List T) (k : Nat) (hk : k < ts.length) (h : p ts[k] = true) : (ts.take (k + 1)).filter p = (ts.take k).filter p ++ [ts[k]] := by rw [filt_succ p ts k hk, if_pos h]
theorem filt_no {T : Type} (p : T → Bool) (ts : List T) (k : Nat) (hk : k < ts.length) (h : p ts[k] = false) : (ts.take (k + 1)).filter p = (ts.take k).filter p := by rw [filt_succ p ts k hk, if_neg (by simp [h])]; simp
theorem filt_le {T : Type} (p : T → Bool) (ts : List T) (k : Nat) : ((ts.take k).filter p).length ≤ k := by
  have := List.length_filter_le p (ts.take k)
  simp at this; omega
/-- A row of elements of the call's own. -/
structure Row {T : Type} (w : World) (lo : Nat) (e : TypeId) (sz : Nat) (enc : T → List Value) (A : Option Addr) (n c : Nat) (ts : List T) : Prop where
  own : w.ownsRow lo e sz (.slice A n c) n (ts.flatMap enc)
  len : ts.length = n
section
variable {T : Type} {w w' : World} {lo lo' : Nat} {e : TypeId} {sz : Nat} {enc : T → List Value} {A : Option Addr} {n c : Nat} {ts : List T}
theorem Row.lt (h : Row w lo e sz enc A n c ts) : ∀ x, A = some x → lo ≤ x.block ∧ x.block < w.heap.size := fun x hx => h.own.lt x.block (by subst hx; rfl)
theorem Row.mono (h : Row w lo e sz enc A n c ts) (hl : lo' ≤ lo) : Row w lo' e sz enc A n c ts := by
  refine ⟨⟨h.own.1, ?_⟩, h.len⟩
  rcases h.own.2 with h2 | ⟨g, cap, cur, hv, hg, r⟩
  · exact .inl h2
  · exact .inr ⟨g, cap, cur, hv, by omega, r⟩
theorem Row.grown {row : Option Nat} (h : Row w lo e sz enc A n c ts) (hg : w.grownBy w' row) (hne : ∀ x, A = some x → row ≠ some x.block) : Row w' lo e sz enc A n c ts := by
  refine ⟨h.own.kept hg ?_, h.len⟩
  cases A with
  | none => exact .inl rfl
  | some x => exact .inr (fun he => hne x rfl he.symm)
theorem Bw.toGrown {a b : World} (h : Bw a b) : a.grownBy b none := ⟨h.b.os, h.b.tape, h.b.output, h.b.size, fun k hk _ => h.b.block k hk⟩
theorem Row.keep (h : Row w lo e sz enc A n c ts) (hb : Bw w w') : Row w' lo e sz enc A n c ts := h.grown hb.toGrown (fun _ _ => by simp)
theorem Row.form (h : Row w lo e sz enc A n c ts) (hn : 0 < n) : ∃ g, A = some ⟨g, 0, none⟩ ∧ lo ≤ g ∧ g < w.heap.size := by
  obtain ⟨g, cap, hv, hlo, hlt⟩ := h.own.form hn
  simp only [Value.slice.injEq] at hv
  exact ⟨g, hv.1, hlo, hlt⟩
theorem Row.caps (h : Row w lo e sz enc A n c ts) : n ≤ c ∧ c ≤ maxLen := by
  rcases h.own.2 with ⟨hv, h0⟩ | ⟨g, cap, cur, hv, _, _, h1, h2, _⟩
  · simp only [Value.slice.injEq] at hv; exact ⟨by omega, by unfold maxLen; omega⟩
  · simp only [Value.slice.injEq] at hv; obtain ⟨_, _, rfl⟩ := hv; exact ⟨h1, h2⟩
theorem Row.rd (h : Row w lo e sz enc A n c ts) (hs : ∀ t, (enc t).length = sz) : Rd w A n sz (ts.map enc) := by
  refine ⟨by simpa using h.len, fun hn => ?_⟩
  obtain ⟨g, rfl, _, hlt⟩ := h.form hn
  refine ⟨g, 0, rfl, hlt, fun k j cs u hk hj => ?_⟩
  simp only [List.getElem?_map, Option.map_eq_some_iff] at hk
  obtain ⟨t, ht, rfl⟩ := hk
  have hjl : j < sz := by rw [← hs t]; exact (List.getElem?_eq_some_iff.1 hj).1
  have hkl : k < n := by rw [← h.len]; exact (List.getElem?_eq_some_iff.1 ht).1
  rw [Nat.zero_add, h.own.cellAt _ (by have : (k + 1) * sz ≤ n * sz := Nat.mul_le_mul_right _ hkl; rw [Nat.succ_mul] at this; omega), flat_get hs ts k j t ht hjl]
  exact hj
theorem Row.frozen {g : Nat} (h : Row w lo e sz enc (some ⟨g, 0, none⟩) n c ts) (j : Nat) : w.frozen? ⟨g, j, none⟩ = false := h.own.frozenAt j
theorem Row.nil (w : World) (lo : Nat) (e : TypeId) (sz : Nat) (enc : T → List Value) : Row w lo e sz enc none 0 0 [] := ⟨World.ownsRow_nil w lo e sz, rfl⟩
/-- Three cells of an element are stored. -/
theorem Row.set3 {g k : Nat} {t : T} {a b d : Value} (hs : ∀ t, (enc t).length = 3) (h : Row w lo e 3 enc (some ⟨g, 0, none⟩) n c ts) (hk : k < n) (ht : enc t = [a, b, d]) :
    Row (((w.setCell ⟨g, k * 3, none⟩ a).setCell ⟨g, k * 3 + 1, none⟩ b).setCell ⟨g, k * 3 + 2, none⟩ d) lo e 3 enc (some ⟨g, 0, none⟩) n c (ts.set k t) ∧
      w.grownBy (((w.setCell ⟨g, k * 3, none⟩ a).setCell ⟨g, k * 3 + 1, none⟩ b).setCell ⟨g, k * 3 + 2, none⟩ d) (some g) := by
  have s1 := h.own.stored (k * 3) a
  have s2 := s1.1.stored (k * 3 + 1) b
  have s3 := s2.1.stored (k * 3 + 2) d
  have hl := flat_length hs ts
  have hn := h.len
  refine ⟨⟨?_, by simpa using h.len⟩, (s1.2.trans s2.2).trans s3.2⟩
  rw [flat_set hs ts k t (by omega), ht, ← Go.Proofs.YtpjljbhodnlhmaaGreatDoor.set3 _ k a b d (by omega)]
  exact s3.1
/-- All cells of an element are stored, one behind the other. -/
def setsFrom (l : List Value) (i : Nat) : List Value → List Value
  | [] => l
  | v :: vs => setsFrom (l.set i v) (i + 1) vs
def storesFrom (w : World) (g i : Nat) : List Value → World
  | [] => w
  | v :: vs => storesFrom (w.setCell ⟨g, i, none⟩ v) g (i + 1) vs
theorem setsFrom_eq (vs : List Value) : ∀ (l : List Value) (i : Nat), i + vs.length ≤ l.length → setsFrom l i vs = l.take i ++ vs ++ l.drop (i + vs.length) := by
  induction vs with
  | nil => intro l i _; simp [setsFrom]
  | cons v vs ih =>
    intro l i h
    simp only [List.length_cons] at h
    have h1 : i < l.length := by omega
    simp only [setsFrom]
    rw [ih _ _ (by simp; omega), List.take_set, List.take_succ_eq_append_getElem h1]
    have h2 : (l.take i).length = i := by simp; omega
    rw [List.set_append_right _ _ (by omega), h2, Nat.sub_self, List.drop_set_of_lt (by omega)]
    simp [Nat.add_comm 1 vs.length, Nat.add_assoc]
theorem Row.storesFrom (vs : List Value) : ∀ {w : World} {g i : Nat} {xs : List Value}, w.ownsRow lo e sz (.slice (some ⟨g, 0, none⟩) n c) n xs →
    (Go.Proofs.YtpjljbhodnlhmaaGreatDoor.storesFrom w g i vs).ownsRow lo e sz (.slice (some ⟨g, 0, none⟩) n c) n (setsFrom xs i vs) ∧ w.grownBy (Go.Proofs.YtpjljbhodnlhmaaGreatDoor.storesFrom w g i vs) (some g) := by
  induction vs with
  | nil => intro w g i xs h; exact ⟨h, World.grownBy.refl _ _⟩
  | cons v vs ih =>
    intro w g i xs h
    have s1 := h.stored i v
    have s2 := ih (g := g) (i := i + 1) s1.1
    exact ⟨s2.1, s1.2.trans s2.2⟩
theorem Row.setN {g k : Nat} {t : T} {vs : List Value} (h : Row w lo e sz enc (some ⟨g, 0, none⟩) n c ts) (hs : ∀ t, (enc t).length = sz) (hk : k < n) (ht : enc t = vs) :
    Row (Go.Proofs.YtpjljbhodnlhmaaGreatDoor.storesFrom w g (k * sz) vs) lo e sz enc (some ⟨g, 0, none⟩) n c (ts.set k t) ∧ w.grownBy (Go.Proofs.YtpjljbhodnlhmaaGreatDoor.storesFrom w g (k * sz) vs) (some g) := by
  have s1 := Row.storesFrom (i := k * sz) vs h.own
  have hl := flat_length hs ts
  have hn := h.len
  have hv : vs.length = sz := by rw [← ht]; exact hs t
  have hb : (k + 1) * sz ≤ ts.length * sz := Nat.mul_le_mul_right _ (by omega)
  rw [Nat.succ_mul] at hb
  refine ⟨⟨?_, by simpa using h.len⟩, s1.2⟩
  rw [flat_set hs ts k t (by omega), ht]
  have := setsFrom_eq vs (ts.flatMap enc) (k * sz) (by omega)
  rw [hv] at this
  rw [← this]
  exact s1.1
/-- One cell of an element of one cell is stored. -/
theorem Row.set1 {g k : Nat} {t : T} {a : Value} (h : Row w lo e 1 enc (some ⟨g, 0, none⟩) n c ts) (hs : ∀ t, (enc t).length = 1) (hk : k < n) (ht : enc t = [a]) :
    Row (w.setCell ⟨g, k, none⟩ a) lo e 1 enc (some ⟨g, 0, none⟩) n c (ts.set k t) ∧ w.grownBy (w.setCell ⟨g, k, none⟩ a) (some g) := by
  have s1 := h.own.stored k a
  have hl := flat_length hs ts
  have hn := h.len
  refine ⟨⟨?_, by simpa using h.len⟩, s1.2⟩
  have e1 := flat_set hs ts k t (by omega)
  rw [e1, ht, Nat.mul_one]
  have : (ts.flatMap enc).set k a = (ts.flatMap enc).take k ++ [a] ++ (ts.flatMap enc).drop (k + 1) := by
    rw [List.set_eq_take_append_cons_drop, if_pos (by omega)]; simp
  rw [← this]
  exact s1.1
end
/-- k elements have been copied, the others are z. -/
def mix {T : Type} (z : T) (n k : Nat) (ts : List T) : List T := ts.take k ++ List.replicate (n - k) z
theorem mix_zero {T : Type} (z : T) (n : Nat) (ts : List T) : mix z n 0 ts = List.replicate n z := by simp [mix]
theorem mix_all {T : Type} (z : T) (n : Nat) (ts : List T) (h : ts.length = n) : mix z n n ts = ts := by subst h; simp [mix]
theorem mix_len {T : Type} (z : T) (n k : Nat) (ts : List T) (h : ts.length = n) (hk : k ≤ n) : (mix z n k ts).length = n := by simp [mix]; omega
theorem mix_succ {T : Type} (z : T) (n k : Nat) (ts : List T) (h : ts.length = n) (hk : k < n) : (mix z n k ts).set k (ts.getD k z) = mix z n (k + 1) ts := by
  have hl : (ts.take k).length = k := by simp; omega
  unfold mix
  have hk' : k < ts.length := by omega
  rw [List.set_append_right _ _ (by omega), hl, Nat.sub_self, List.take_succ_eq_append_getElem hk']
  obtain ⟨m, hm⟩ : ∃ m, n - k = m + 1 := ⟨n - k - 1, by omega⟩
  rw [hm, List.replicate_succ, List.set_cons_zero, show n - (k + 1) = m by omega, List.append_assoc]
  simp [hk']
/-- Another row, or what came in, is not touched by a store into a row. -/
theorem Rd.grown {a b : World} {A : Option Addr} {n sz : Nat} {xs : List (List Value)} {row : Option Nat} (h : Rd a A n sz xs) (hg : a.grownBy b row) (hne : ∀ x, A = some x → row ≠ some x.block) : Rd b A n sz xs :=
  ⟨h.len, fun hn => let ⟨g, off, hA, hlt, hc⟩ := h.at_ hn; ⟨g, off, hA, Nat.lt_of_lt_of_le hlt hg.size, fun k j cs u h1 h2 => (hg.cell_far ⟨g, off + k * sz + j, none⟩ hlt (fun he => hne _ hA he.symm)).trans (hc k j cs u h1 h2)⟩⟩
end Go.Proofs.YtpjljbhodnlhmaaGreatDoor
