
/- Rows of ints: copies of the law's arguments, searches. -/
import Derived.Test.YtnejeigcdogolaaI
namespace Go.Proofs.Ytnejeigcdogolaa
open Go.RowKit
def idxI (ts : List Int) (x : Int) : Int := if ts.findIdx (· == x) < ts.length then (ts.findIdx (· == x) : Int) else -1
theorem idxI_at {ts : List Int} {x : Int} {k : Nat} (hk : k < ts.length) (he : intAt ts k = x) (hn : ∀ j, j < k → intAt ts j ≠ x) : idxI ts x = k := by
  have h1 : ts.findIdx (· == x) = k := by
    rcases Nat.lt_trichotomy (ts.findIdx (· == x)) k with h | h | h
    · have h2 := List.findIdx_getElem (xs := ts) (p := (· == x)) (w := by omega)
      simp only [beq_iff_eq] at h2
      have h3 := hn _ h
      rw [intAt_lt (by omega)] at h3
      exact absurd h2 h3
    · exact h
    · have h2 := List.not_of_lt_findIdx h
      rw [intAt_lt hk] at he
      simp [he] at h2
  simp [idxI, h1, hk]
theorem idxI_none {ts : List Int} {x : Int} (hn : ∀ j, j < ts.length → intAt ts j ≠ x) : idxI ts x = -1 := by
  have h1 : ¬ ts.findIdx (· == x) < ts.length := by
    intro h
    have h2 := List.findIdx_getElem (xs := ts) (p := (· == x)) (w := h)
    simp only [beq_iff_eq] at h2
    have h3 := hn _ h
    rw [intAt_lt h] at h3
    exact h3 h2
  simp [idxI, h1]
def hasI (ts : List Int) (x : Int) : Bool := decide (x ∈ ts)
theorem hasI_idx (ts : List Int) (x : Int) : decide (0 ≤ idxI ts x) = hasI ts x := by
  rw [Bool.eq_iff_iff]
  simp only [hasI, decide_eq_true_eq]
  constructor
  · intro h
    unfold idxI at h
    split at h
    · rename_i h1
      have h2 := List.findIdx_getElem (xs := ts) (p := (· == x)) (w := h1)
      simp only [beq_iff_eq] at h2
      rw [← h2]; exact List.getElem_mem _
    · omega
  · intro h
    have : ts.findIdx (· == x) < ts.length := List.findIdx_lt_length.2 ⟨x, h, by simp⟩
    simp [idxI, this]
theorem hasI_at {ts : List Int} {x : Int} {k : Nat} (hk : k < ts.length) (he : intAt ts k = x) : hasI ts x = true := by
  simp only [hasI, decide_eq_true_eq]; rw [← he, intAt_lt hk]; exact List.getElem_mem _
theorem hasI_none {ts : List Int} {x : Int} (hn : ∀ j, j < ts.length → intAt ts j ≠ x) : hasI ts x = false := by
  simp only [hasI, decide_eq_false_iff_not]
  intro h
  obtain ⟨j, hj, he⟩ := List.getElem_of_mem h
  exact hn j hj (by rw [intAt_lt hj]; exact he)
end Go.Proofs.Ytnejeigcdogolaa
