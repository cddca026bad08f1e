
/- The library's Reverse at a row of ints. -/
import Derived.Test.YthciecmofgoebaaGreatDoorI2
namespace Go.Proofs.YthciecmofgoebaaGreatDoor
open Go.RowKit
def revTo (ts xs : List Int) (n k : Nat) : Prop := xs.length = n ∧ ∀ j, j < n → intAt xs j = if j < k ∨ n ≤ j + k then intAt ts (n - 1 - j) else intAt ts j
theorem intAt_set (xs : List Int) (k j : Nat) (x : Int) (hk : k < xs.length) : intAt (xs.set k x) j = if j = k then x else intAt xs j := by
  unfold intAt
  by_cases h : j = k
  · subst h; simp [hk]
  · rw [if_neg h]; simp [List.getElem?_set_ne (Ne.symm h)]
theorem revTo.zero {ts : List Int} {n : Nat} (h : ts.length = n) : revTo ts ts n 0 := by
  refine ⟨h, fun j hj => ?_⟩
  rw [if_neg (by omega)]
theorem revTo.step {ts xs : List Int} {n k m : Nat} (h : revTo ts xs n k) (hm : m + k + 1 = n) (hk : k < m) : revTo ts ((xs.set k (intAt xs m)).set m (intAt xs k)) n (k + 1) := by
  obtain ⟨hl, hx⟩ := h
  refine ⟨by simp [hl], fun j hj => ?_⟩
  rw [intAt_set _ _ _ _ (by simp [hl]; omega), intAt_set _ _ _ _ (by omega)]
  have h1 := hx k (by omega)
  have h2 := hx m (by omega)
  have h3 := hx j hj
  rw [if_neg (by omega)] at h1 h2
  by_cases e1 : j = m
  · subst e1
    rw [if_pos rfl, if_pos (by omega), h1]
    congr 1; omega
  · rw [if_neg e1]
    by_cases e2 : j = k
    · subst e2
      rw [if_pos rfl, if_pos (by omega), h2]
      congr 1; omega
    · rw [if_neg e2, h3]
      by_cases e3 : j < k ∨ n ≤ j + k
      · rw [if_pos e3, if_pos (by omega)]
      · rw [if_neg e3, if_neg (by omega)]
theorem revTo.done {ts xs : List Int} {n k : Nat} (hn : ts.length = n) (h : revTo ts xs n k) (hk : n ≤ k + k + 1) : xs = ts.reverse := by
  obtain ⟨hl, hx⟩ := h
  refine List.ext_getElem (by simp [hl, hn]) (fun j h1 h2 => ?_)
  have h3 := hx j (by omega)
  rw [intAt_lt h1] at h3
  rw [h3, List.getElem_reverse]
  by_cases e : j < k ∨ n ≤ j + k
  · rw [if_pos e, intAt_lt (by omega)]
    congr 1; omega
  · rw [if_neg e, intAt_lt (by omega)]
    congr 1; omega
end Go.Proofs.YthciecmofgoebaaGreatDoor
