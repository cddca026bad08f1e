
/- The library's IndexFunc and DeleteFunc: the plain law of what they leave. -/
import Derived.Test.YtpjljbhodnlhmaaGreatDoorK11
namespace Go.Proofs.YtpjljbhodnlhmaaGreatDoor
open Go.RowKit
def idxP {T : Type} (p : T → Bool) (ts : List T) : Nat := ts.findIdx p
def idxPI {T : Type} (p : T → Bool) (ts : List T) : Int := if idxP p ts < ts.length then (idxP p ts : Int) else -1
theorem idxP_le {T : Type} (p : T → Bool) (ts : List T) : idxP p ts ≤ ts.length := List.findIdx_le_length
theorem idxP_not {T : Type} {p : T → Bool} {ts : List T} {j : Nat} (h : j < idxP p ts) (hj : j < ts.length) : p ts[j] = false := by
  have := List.not_of_lt_findIdx h
  simpa using this
theorem idxP_is {T : Type} {p : T → Bool} {ts : List T} (h : idxP p ts < ts.length) : p ts[idxP p ts] = true := List.findIdx_getElem (w := h)
theorem idxP_eq {T : Type} {p : T → Bool} {ts : List T} {k : Nat} (hk : k < ts.length) (hid : p ts[k] = true) (hn : ∀ j (hj : j < k), p (ts[j]'(by omega)) = false) : idxP p ts = k := by
  rcases Nat.lt_trichotomy (idxP p ts) k with h | h | h
  · have h1 := idxP_is (p := p) (ts := ts) (by omega)
    rw [hn _ h] at h1; cases h1
  · exact h
  · have h1 := idxP_not h hk
    rw [hid] at h1; cases h1
theorem idxP_none {T : Type} {p : T → Bool} {ts : List T} (hn : ∀ j (hj : j < ts.length), p ts[j] = false) : idxP p ts = ts.length := by
  rcases Nat.lt_or_ge (idxP p ts) ts.length with h | h
  · have h1 := idxP_is h
    rw [hn _ h] at h1; cases h1
  · exact Nat.le_antisymm (idxP_le _ _) h
/-- What is left behind a DeleteFunc. -/
def leave {T : Type} (p : T → Bool) (ts : List T) : List T := ts.filter (fun t => !p t)
theorem leave_all {T : Type} {p : T → Bool} {ts : List T} (h : idxP p ts = ts.length) : leave p ts = ts := by
  unfold leave
  rw [List.filter_eq_self]
  intro t ht
  obtain ⟨j, hj, rfl⟩ := List.mem_iff_getElem.1 ht
  rw [idxP_not (p := p) (ts := ts) (by omega) hj]; rfl
theorem leave_take {T : Type} {p : T → Bool} {ts : List T} {k : Nat} (h : k ≤ idxP p ts) : leave p (ts.take k) = ts.take k := by
  unfold leave
  rw [List.filter_eq_self]
  intro t ht
  obtain ⟨j, hj, rfl⟩ := List.mem_iff_getElem.1 ht
  simp at hj
  rw [List.getElem_take, idxP_not (p := p) (ts := ts) (by omega) (by omega)]; rfl
/-- The state of DeleteFunc's loop: j elements have been seen. -/
structure DelSt {T : Type} (p : T → Bool) (ts xs : List T) (i j : Nat) : Prop where
  le : i < j
  jn : j ≤ ts.length
  len : (leave p (ts.take j)).length = i
  ex : ∃ mid : List T, mid.length = j - i ∧ xs = leave p (ts.take j) ++ mid ++ ts.drop j
theorem DelSt.start {T : Type} {p : T → Bool} {ts : List T} (h : idxP p ts < ts.length) : DelSt p ts ts (idxP p ts) (idxP p ts + 1) := by
  have e1 : leave p (ts.take (idxP p ts + 1)) = ts.take (idxP p ts) := by
    have h1 := leave_take (p := p) (ts := ts) (Nat.le_refl _)
    unfold leave at h1 ⊢
    rw [filt_no _ ts _ h (by rw [idxP_is h]; rfl), h1]
  refine ⟨by omega, h, by rw [e1]; simp; omega, [ts[idxP p ts]], by simp, ?_⟩
  rw [e1, List.append_assoc]
  have : [ts[idxP p ts]] ++ ts.drop (idxP p ts + 1) = ts.drop (idxP p ts) := by rw [List.singleton_append, List.getElem_cons_drop]
  rw [this, List.take_append_drop]
theorem DelSt.at_ {T : Type} {p : T → Bool} {ts xs : List T} {i j : Nat} (h : DelSt p ts xs i j) (hj : j < ts.length) : xs.length = ts.length ∧ xs[j]? = some ts[j] := by
  obtain ⟨mid, hm, rfl⟩ := h.ex
  have h1 := h.len
  have h2 := h.le
  refine ⟨by simp; omega, ?_⟩
  rw [List.getElem?_append_right (by simp; omega)]
  have : j - (leave p (ts.take j) ++ mid).length = 0 := by simp; omega
  rw [this, List.getElem?_drop, Nat.add_zero, List.getElem?_eq_getElem hj]
theorem DelSt.skip {T : Type} {p : T → Bool} {ts xs : List T} {i j : Nat} (h : DelSt p ts xs i j) (hj : j < ts.length) (hp : p ts[j] = true) : DelSt p ts xs i (j + 1) := by
  obtain ⟨mid, hm, rfl⟩ := h.ex
  have e1 : leave p (ts.take (j + 1)) = leave p (ts.take j) := by unfold leave; rw [filt_no _ ts j hj (by rw [hp]; rfl)]
  have h2 := h.le
  refine ⟨by omega, hj, by rw [e1]; exact h.len, mid ++ [ts[j]], by simp; omega, ?_⟩
  rw [e1, List.drop_eq_getElem_cons hj]; simp
theorem DelSt.keep {T : Type} {p : T → Bool} {ts xs : List T} {i j : Nat} (h : DelSt p ts xs i j) (hj : j < ts.length) (hp : p ts[j] = false) : DelSt p ts (xs.set i ts[j]) (i + 1) (j + 1) := by
  obtain ⟨mid, hm, rfl⟩ := h.ex
  have h1 := h.len
  have h2 := h.le
  have e1 : leave p (ts.take (j + 1)) = leave p (ts.take j) ++ [ts[j]] := by unfold leave; rw [filt_yes _ ts j hj (by rw [hp]; rfl)]
  match mid, hm with
  | [], hm => simp at hm; omega
  | m :: mid, hm =>
    refine ⟨by omega, hj, by rw [e1]; simp [h1], mid ++ [ts[j]], by simp at hm ⊢; omega, ?_⟩
    rw [e1, List.append_assoc, List.set_append_right _ _ (by omega), h1, Nat.sub_self, List.cons_append, List.set_cons_zero, List.drop_eq_getElem_cons hj]
    simp
theorem DelSt.done {T : Type} {p : T → Bool} {ts xs : List T} {i : Nat} (h : DelSt p ts xs i ts.length) : xs.take i = leave p ts ∧ (leave p ts).length = i ∧ xs.length = ts.length := by
  obtain ⟨mid, hm, rfl⟩ := h.ex
  have h1 := h.len
  have h2 := h.le
  rw [List.take_of_length_le (Nat.le_refl _)] at h1 ⊢
  refine ⟨?_, h1, by simp; omega⟩
  rw [List.append_assoc, ← h1, List.take_left]
end Go.Proofs.YtpjljbhodnlhmaaGreatDoor
