
/- Rows of ints: copies of the law's arguments, searches. -/
import Derived.Test.YthciecmofgoebaaGreatDoorI
namespace Go.Proofs.YthciecmofgoebaaGreatDoor
open Go.RowKit
def idxI (ts : List Int) (x : Int) : Int := if ts.findIdx (· == x) < ts.length then (ts.findIdx (· == x) : Int) else -1
theorem idxI_at {ts : List Int} {x : Int} {k : Nat} (hk : k < ts.length) (he : intAt ts k = x) (hn : ∀ j, j < k → intAt ts j ≠ x) : idxI ts x = k := by
  have h1 : ts.findIdx (· == x) = k := by
    rcases Nat.lt_trichotomy (ts.findIdx (· == x)) k with h | h | h
    · have h2 := List.findIdx_getElem (xs := ts) (p := (· == x)) (w := by omega)
      simp only [beq_iff_eq] at h2
      have h3 := hn _ h
      rw [intAt_lt (by omega)] at h3
      exact absurd h2 h3
    · exact h
    · have h2 := List.not_of_lt_findIdx h
      rw [intAt_lt hk] at he
      simp [he] at h2
  simp [idxI, h1, hk]
theorem idxI_none {ts : List Int} {x : Int} (hn : ∀ j, j < ts.length → intAt ts j ≠ x) : idxI ts x = -1 := by
  have h1 : ¬ ts.findIdx (· == x) < ts.length := by
    intro h
    have h2 := List.findIdx_getElem (xs := ts) (p := (· == x)) (w := h)
    simp only [beq_iff_eq] at h2
    have h3 := hn _ h
    rw [intAt_lt h] at h3
    exact h3 h2
  simp [idxI, h1]
def hasI (ts : List Int) (x : Int) : Bool := decide (x ∈ ts)
theorem hasI_idx (ts : List Int) (x : Int) : decide (0 ≤ idxI ts x) = hasI ts x := by
  rw [Bool.eq_iff_iff]
  simp only [hasI, decide_eq_true_eq]
  constructor
  · intro h
    unfold idxI at h
    split at h
    · rename_i h1
      have h2 := List.findIdx_getElem (xs := ts) (p := (· == x)) (w := h1)
      simp only [beq_iff_eq] at h2
      rw [← h2]; exact List.getElem_mem _
    · omega
  · intro h
    have : ts.findIdx (· == x) < ts.length := List.findIdx_lt_length.2 ⟨x, h, by simp⟩
    simp [idxI, this]
theorem hasI_at {ts : List Int} {x : Int} {k : Nat} (hk : k < ts.length) (he : intAt ts k = x) : hasI ts x = true := by
  simp only [hasI, decide_eq_true_eq]; rw [← he, intAt_lt hk]; exact List.getElem_mem _
theorem hasI_none {ts : List Int} {x : Int} (hn : ∀ j, j < ts.length → intAt ts j ≠ x) : hasI ts x = false := by
  simp only [hasI, decide_eq_false_iff_not]
  intro h
  obtain ⟨j, hj, he⟩ := List.getElem_of_mem h
  exact hn j hj (by rw [intAt_lt hj]; exact he)
theorem c_Index (A : Option Addr) (n c : Nat) (ts : List Int) (x : Int) {m : Int} (hm : idxI ts x = m) (w : World) (hn : n ≤ 9223372036854775807) (h : Rd w A n 1 (ts.map icell)) :
    Calls Tryz.prog 76 #[.slice A n c, .int .i64 x] w fun e w' => e = .returned (.int .i64 m) ∧ w = w' := by
  subst hm
  have hl := Lib.hid h.ilen
  go_enter Tryz.func76, Tryz.ntmps76
  go_wp2
  go_loop [8] (fun i => ∃ k : Nat, k ≤ n ∧ i = .int .i64 k ∧ ∀ j, j < k → intAt ts j ≠ x) (fun i => n - (intOf i).toNat)
  case atStart => exact ⟨0, Nat.zero_le _, rfl, fun j hj => absurd hj (by omega)⟩
  case round =>
    obtain ⟨k, hk, rfl, hn'⟩ := hrel
    have Hn := Lib.hid hn'
    clear hn'
    by_cases hlt : k < n
    · obtain ⟨b, off, rfl, hb, hc⟩ := h.ints (by omega)
      have h0 := hc k hlt
      clear hc
      by_cases he : intAt ts k = x
      · have he' : (x == intAt ts k) = true := by simpa using he.symm
        have HE := Lib.hid he
        clear he
        go_wp2
        go_ret
        exact ⟨ret_int (idxI_at (by rw [hl.out]; exact hlt) HE.out Hn.out).symm, rfl⟩
      · have he' : (x == intAt ts k) = false := by simpa using (fun h => he h.symm)
        have HE := Lib.hid he
        clear he
        go_wp2
        go_round
        case rel => exact ⟨k + 1, by omega, by go_num, snoc_lt Hn.out HE.out⟩
        case measure => simp [intOf]; omega
    · go_wp2
      go_ret
      exact ⟨ret_int (idxI_none (ts := ts) (x := x) (by rw [hl.out]; intro j hj; exact Hn.out j (by omega))).symm, rfl⟩
theorem c_Contains (A : Option Addr) (n c : Nat) (ts : List Int) (x : Int) {r : Bool} (hr : hasI ts x = r) (w : World) (hn : n ≤ 9223372036854775807) (h : Rd w A n 1 (ts.map icell)) :
    Calls Tryz.prog 66 #[.slice A n c, .int .i64 x] w fun e w' => e = .returned (.bool r) ∧ w = w' := by
  generalize hm : idxI ts x = m
  have HR := Lib.hid (show decide (0 ≤ m) = r by rw [← hm, hasI_idx, hr])
  have HM := Lib.hid hm
  clear hr hm
  go_enter Tryz.func66, Tryz.ntmps66
  go_wp2_with (go_at_call 76; refine (c_Index _ _ _ ts _ HM.out _ hn h).mono ?_; rintro e w1 ⟨rfl, rfl⟩)
  go_ret
  exact ⟨ret_bool HR.out, rfl⟩
end Go.Proofs.YthciecmofgoebaaGreatDoor
