
/- Rows of ints: copies of the law's arguments, searches. -/
import Derived.Test.YtpjljbhodnlhmaaGreatDoorI
namespace Go.Proofs.YtpjljbhodnlhmaaGreatDoor
open Go.RowKit
theorem c_szIntS (A : Option Addr) (n c : Nat) (hm : n ≤ 9223372036854775807) (w : World) : Calls Tryz.prog 18 #[.slice A n c, .int .i64 1048576] w fun e w' => (∃ m : Int, e = .returned (.int .i64 m) ∧ (m < 0 ∨ n ≤ 1048576)) ∧ w = w' := by
  go_enter Tryz.func18, Tryz.ntmps18
  by_cases h : n ≤ 1048576
  all_goals
    go_wp2
    go_ret
    refine ⟨⟨_, rfl, by omega⟩, rfl⟩
theorem c_toIntS (A : Option Addr) (n c : Nat) (ts : List Int) (w : World) (hm : n ≤ 1048576) (h : Rd w A n 1 (ts.map icell)) :
    Calls Tryz.prog 22 #[.slice A n c] w fun e w' => (∃ A' c', e = .returned (.slice A' n c') ∧ Row w' w.heap.size 3 1 icell A' n c' ts) ∧ Bw w w' := by
  have hl := Lib.hid h.ilen
  obtain ⟨i0, hi, hz0, hz1, hz2⟩ := info_parts infoInt
  have hmk : ∀ W, (Instr.makeSlice 22 (.int .i64 (n : Int)) (.int .i64 (n : Int))).run Tryz.prog W = .ok (.slice (some ⟨W.heap.size, 0, none⟩) n n) (W.alloc (.cells (madeCells #[.int .i64 0] (n * 1)) 3)) := fun W => by
    have := run_make (P := Tryz.prog) W 22 3 i0 _ Tryz.underlying22 hi hz0 .i64 .i64 n n (by omega) (by omega) (by rw [hz2]; omega) (by omega)
    rw [hz1] at this
    exact this
  clear hi hz0 hz1 hz2
  go_enter Tryz.func22, Tryz.ntmps22
  go_wp2
  go_loopw [4] (fun i wr => ∃ k : Nat, k ≤ n ∧ i = .int .i64 k ∧ Row wr w.heap.size 3 1 icell (some ⟨w.heap.size, 0, none⟩) n n (mix 0 n k ts) ∧ Bw w wr) (fun i _ => n - (intOf i).toNat)
  case atStart =>
    refine ⟨0, Nat.zero_le _, rfl, ⟨?_, by simp [mix]⟩, (Bw.refl _).alloc _⟩
    have := World.ownsRow_lit (base := w.heap.size) (e := 3) (size := 1) w (madeCells #[.int .i64 0] (n * 1)) n (Nat.le_refl _) (by unfold maxLen; omega) (size_madeCells _ _)
    have e1 := madeCells_flat #[.int .i64 0] (by simp) n
    have e2 : (#[Value.int .i64 0] : Array Value).size = 1 := rfl
    rw [e2] at e1
    rw [e1] at this
    rw [mix_zero, List.flatMap_replicate]
    simp only [Nat.mul_one] at this
    exact this
  case round =>
    obtain ⟨k, hk, rfl, hrow, hbl⟩ := hrel
    by_cases hlt : k < n
    · obtain ⟨b, off, rfl, hb, hc⟩ := (h.keep hbl).ints (by omega)
      have h0 := hc k hlt
      clear hc
      obtain ⟨g, hg, hlo, hgl, hfz, hcc⟩ := hrow.ints (by omega)
      obtain rfl : w.heap.size = g := by simpa using hg
      have q0 := hcc k hlt
      clear hcc
      go_wp2
      go_roundw
      case rel =>
        have hs := hrow.set1 (t := intAt ts k) (fun _ => rfl) hlt rfl
        refine ⟨k + 1, by omega, by go_num, ?_, hbl.grown hs.2 (by simp)⟩
        rw [← mix_succ _ _ _ _ hl.out hlt]
        exact hs.1
      case measure => simp [intOf]; omega
    · go_wp2
      go_ret
      obtain rfl : k = n := by omega
      rw [mix_all _ _ _ hl.out] at hrow
      exact ⟨⟨_, _, rfl, hrow⟩, hbl⟩
def idxI (ts : List Int) (x : Int) : Int := if ts.findIdx (· == x) < ts.length then (ts.findIdx (· == x) : Int) else -1
theorem idxI_at {ts : List Int} {x : Int} {k : Nat} (hk : k < ts.length) (he : intAt ts k = x) (hn : ∀ j, j < k → intAt ts j ≠ x) : idxI ts x = k := by
  have h1 : ts.findIdx (· == x) = k := by
    rcases Nat.lt_trichotomy (ts.findIdx (· == x)) k with h | h | h
    · have h2 := List.findIdx_getElem (xs := ts) (p := (· == x)) (w := by omega)
      simp only [beq_iff_eq] at h2
      have h3 := hn _ h
      rw [intAt_lt (by omega)] at h3
      exact absurd h2 h3
    · exact h
    · have h2 := List.not_of_lt_findIdx h
      rw [intAt_lt hk] at he
      simp [he] at h2
  simp [idxI, h1, hk]
theorem idxI_none {ts : List Int} {x : Int} (hn : ∀ j, j < ts.length → intAt ts j ≠ x) : idxI ts x = -1 := by
  have h1 : ¬ ts.findIdx (· == x) < ts.length := by
    intro h
    have h2 := List.findIdx_getElem (xs := ts) (p := (· == x)) (w := h)
    simp only [beq_iff_eq] at h2
    have h3 := hn _ h
    rw [intAt_lt h] at h3
    exact h3 h2
  simp [idxI, h1]
def hasI (ts : List Int) (x : Int) : Bool := decide (x ∈ ts)
theorem hasI_idx (ts : List Int) (x : Int) : decide (0 ≤ idxI ts x) = hasI ts x := by
  rw [Bool.eq_iff_iff]
  simp only [hasI, decide_eq_true_eq]
  constructor
  · intro h
    unfold idxI at h
    split at h
    · rename_i h1
      have h2 := List.findIdx_getElem (xs := ts) (p := (· == x)) (w := h1)
      simp only [beq_iff_eq] at h2
      rw [← h2]; exact List.getElem_mem _
    · omega
  · intro h
    have : ts.findIdx (· == x) < ts.length := List.findIdx_lt_length.2 ⟨x, h, by simp⟩
    simp [idxI, this]
theorem hasI_at {ts : List Int} {x : Int} {k : Nat} (hk : k < ts.length) (he : intAt ts k = x) : hasI ts x = true := by
  simp only [hasI, decide_eq_true_eq]; rw [← he, intAt_lt hk]; exact List.getElem_mem _
theorem hasI_none {ts : List Int} {x : Int} (hn : ∀ j, j < ts.length → intAt ts j ≠ x) : hasI ts x = false := by
  simp only [hasI, decide_eq_false_iff_not]
  intro h
  obtain ⟨j, hj, he⟩ := List.getElem_of_mem h
  exact hn j hj (by rw [intAt_lt hj]; exact he)
theorem c_Index (A : Option Addr) (n c : Nat) (ts : List Int) (x : Int) {m : Int} (hm : idxI ts x = m) (w : World) (hn : n ≤ 9223372036854775807) (h : Rd w A n 1 (ts.map icell)) :
    Calls Tryz.prog 158 #[.slice A n c, .int .i64 x] w fun e w' => e = .returned (.int .i64 m) ∧ w = w' := by
  subst hm
  have hl := Lib.hid h.ilen
  go_enter Tryz.func158, Tryz.ntmps158
  go_wp2
  go_loop [8] (fun i => ∃ k : Nat, k ≤ n ∧ i = .int .i64 k ∧ ∀ j, j < k → intAt ts j ≠ x) (fun i => n - (intOf i).toNat)
  case atStart => exact ⟨0, Nat.zero_le _, rfl, fun j hj => absurd hj (by omega)⟩
  case round =>
    obtain ⟨k, hk, rfl, hn'⟩ := hrel
    have Hn := Lib.hid hn'
    clear hn'
    by_cases hlt : k < n
    · obtain ⟨b, off, rfl, hb, hc⟩ := h.ints (by omega)
      have h0 := hc k hlt
      clear hc
      by_cases he : intAt ts k = x
      · have he' : (x == intAt ts k) = true := by simpa using he.symm
        have HE := Lib.hid he
        clear he
        go_wp2
        go_ret
        exact ⟨ret_int (idxI_at (by rw [hl.out]; exact hlt) HE.out Hn.out).symm, rfl⟩
      · have he' : (x == intAt ts k) = false := by simpa using (fun h => he h.symm)
        have HE := Lib.hid he
        clear he
        go_wp2
        go_round
        case rel => exact ⟨k + 1, by omega, by go_num, snoc_lt Hn.out HE.out⟩
        case measure => simp [intOf]; omega
    · go_wp2
      go_ret
      exact ⟨ret_int (idxI_none (ts := ts) (x := x) (by rw [hl.out]; intro j hj; exact Hn.out j (by omega))).symm, rfl⟩
theorem c_Contains (A : Option Addr) (n c : Nat) (ts : List Int) (x : Int) {r : Bool} (hr : hasI ts x = r) (w : World) (hn : n ≤ 9223372036854775807) (h : Rd w A n 1 (ts.map icell)) :
    Calls Tryz.prog 131 #[.slice A n c, .int .i64 x] w fun e w' => e = .returned (.bool r) ∧ w = w' := by
  generalize hm : idxI ts x = m
  have HR := Lib.hid (show decide (0 ≤ m) = r by rw [← hm, hasI_idx, hr])
  have HM := Lib.hid hm
  clear hr hm
  go_enter Tryz.func131, Tryz.ntmps131
  go_wp2_with (go_at_call 158; refine (c_Index _ _ _ ts _ HM.out _ hn h).mono ?_; rintro e w1 ⟨rfl, rfl⟩)
  go_ret
  exact ⟨ret_bool HR.out, rfl⟩
end Go.Proofs.YtpjljbhodnlhmaaGreatDoor
