
/- Trees: which are valid. -/
import Derived.Test.YtpjljbhodnlhmaaGreatDoorI2
import Derived.Test.YtpjljbhodnlhmaaGreatDoorK1
namespace Go.Proofs.YtpjljbhodnlhmaaGreatDoor
open Go.RowKit
def stepP (ps : List Int) (k : Nat) : Bool := if k = 0 then intAt ps 0 == -1 else inR (intAt ps k) 0 (k - 1)
def goodP (ps : List Int) : Bool := inR ps.length 2 8 && allB (stepP ps) ps.length
theorem goodP_len {ps : List Int} (h : inR ps.length 2 8 = false) : goodP ps = false := by simp [goodP, h]
theorem goodP_false {ps : List Int} {k : Nat} (hk : k < ps.length) (h : stepP ps k = false) : goodP ps = false := by simp [goodP, allB_false hk h]
theorem goodP_true {ps : List Int} (hl : inR ps.length 2 8 = true) (h : ∀ j, j < ps.length → stepP ps j = true) : goodP ps = true := by simp [goodP, hl, allB_true h]
theorem goodP_iff {ps : List Int} : goodP ps = true ↔ (2 ≤ ps.length ∧ ps.length ≤ 8) ∧ ∀ j, j < ps.length → stepP ps j = true := by
  constructor
  · intro h
    simp only [goodP, Bool.and_eq_true, inR_iff] at h
    exact ⟨by omega, allB_elim h.2⟩
  · rintro ⟨h1, h2⟩; exact goodP_true (inR_mk (by omega)) h2
theorem goodP_lt {ps : List Int} (h : goodP ps = true) {k : Nat} (hk : k < ps.length) : -1 ≤ intAt ps k ∧ intAt ps k < k := by
  have h1 := (goodP_iff.1 h).2 k hk
  unfold stepP at h1
  split at h1
  · rename_i h0; subst h0; simp only [beq_iff_eq] at h1; omega
  · have := inR_iff.1 h1; omega
theorem c_l6Good (A : Option Addr) (n c : Nat) (ps : List Int) {r : Bool} (hr : goodP ps = r) (w : World) (hn : n ≤ 9223372036854775807) (h : Rd w A n 1 (ps.map icell)) :
    Calls Tryz.prog 20 #[.agg #[.slice A n c]] w fun e w' => e = .returned (.bool r) ∧ Bw w w' := by
  subst hr
  have hl := Lib.hid h.ilen
  cases h28 : inR n 2 8
  · have HR := Lib.hid (goodP_len (ps := ps) (by rw [hl.out]; exact h28))
    go_enter Tryz.func20, Tryz.ntmps20
    go_wp2_with (go_at_call 53; refine (c_l1In _ _ _ h28 _).mono ?_; rintro e w1 ⟨rfl, rfl⟩)
    go_ret
    exact ⟨ret_bool HR.out.symm, by (repeat (first | with_reducible assumption | exact Bw.refl _ | (with_reducible refine Bw.setCell ?_ (by simp) _) | (with_reducible refine Bw.alloc ?_ _) | (with_reducible refine Bw.drew ?_) | (with_reducible refine Bw.drewN ?_ _)))⟩
  · have ⟨l2, l8⟩ := inR_iff.1 h28
    obtain ⟨b, off, rfl, hb, hc⟩ := h.ints (by omega)
    have Hc := Lib.hid hc
    have h0 : w.cell? ⟨b, off, none⟩ = some (.int .i64 (intAt ps 0)) := by simpa using hc 0 (by omega)
    clear hc
    by_cases hz : intAt ps 0 = -1
    · have hz' : (intAt ps 0 != -1) = false := by simpa using hz
      have HZ := Lib.hid hz
      clear hz
      go_enter Tryz.func20, Tryz.ntmps20
      go_wp2_with (go_at_call 53; refine (c_l1In _ _ _ h28 _).mono ?_; rintro e w1 ⟨rfl, rfl⟩)
      go_loopw [4] (fun i wr => ∃ k : Nat, 1 ≤ k ∧ k ≤ n ∧ i = .int .i64 k ∧ (∀ j, j < k → stepP ps j = true) ∧ Bw (w.alloc (.cells #[.slice (some ⟨b, off, none⟩) n c] 26)) wr) (fun i _ => n - (intOf i).toNat)
      case atStart => exact ⟨1, Nat.le_refl _, by omega, rfl, fun j hj => by (obtain rfl : j = 0 := by omega); simp [stepP, HZ.out], Bw.refl _⟩
      case round =>
        obtain ⟨k, hk1, hk, rfl, hn', hbl⟩ := hrel
        have Hn := Lib.hid hn'
        clear hn'
        have b0 := hbl.cellv (p := ⟨w.heap.size, 0, none⟩) (v := .slice (some ⟨b, off, none⟩) n c) (by go_simp)
        by_cases hlt : k < n
        · have q0 := hbl.cellv (p := ⟨b, off + k, none⟩) (v := .int .i64 (intAt ps k)) (by go_simp; exact Hc.out k hlt)
          cases hs : inR (intAt ps k) 0 ((k : Int) - 1)
          · go_wp2_with (go_at_call 53; refine (c_l1In _ _ _ hs _).mono ?_; rintro e w1 ⟨rfl, rfl⟩)
            go_ret
            exact ⟨ret_bool (goodP_false (k := k) (by rw [hl.out]; exact hlt) (by simp [stepP, show k ≠ 0 by omega, hs])).symm, Bw.trans (Bw.alloc (Bw.refl _) _) hbl⟩
          · go_wp2_with (go_at_call 53; refine (c_l1In _ _ _ hs _).mono ?_; rintro e w1 ⟨rfl, rfl⟩)
            go_roundw
            case rel => exact ⟨k + 1, by omega, by omega, by go_num, snoc_lt Hn.out (by simp [stepP, show k ≠ 0 by omega, hs]), hbl⟩
            case measure => simp [intOf]; omega
        · go_wp2
          go_ret
          exact ⟨ret_bool (goodP_true (by rw [hl.out]; exact h28) (by rw [hl.out]; intro j hj; exact Hn.out j (by omega))).symm, Bw.trans (Bw.alloc (Bw.refl _) _) hbl⟩
    · have hz' : (intAt ps 0 != -1) = true := by simpa using hz
      have HR := Lib.hid (goodP_false (ps := ps) (k := 0) (by rw [hl.out]; omega) (by simp [stepP, hz]))
      clear hz
      go_enter Tryz.func20, Tryz.ntmps20
      go_wp2_with (go_at_call 53; refine (c_l1In _ _ _ h28 _).mono ?_; rintro e w1 ⟨rfl, rfl⟩)
      go_ret
      exact ⟨ret_bool HR.out.symm, by (repeat (first | with_reducible assumption | exact Bw.refl _ | (with_reducible refine Bw.setCell ?_ (by simp) _) | (with_reducible refine Bw.alloc ?_ _) | (with_reducible refine Bw.drew ?_) | (with_reducible refine Bw.drewN ?_ _)))⟩
theorem c_IsValidTree (A : Option Addr) (n c : Nat) (ps : List Int) {r : Bool} (hr : goodP ps = r) (w : World) (hn : n ≤ 9223372036854775807) (h : Rd w A n 1 (ps.map icell)) :
    Calls Tryz.prog 24 #[.agg #[.slice A n c]] w fun e w' => e = .returned (.bool r) ∧ Bw w w' := by
  subst hr
  have hl := Lib.hid h.ilen
  go_enter Tryz.func24, Tryz.ntmps24
  go_wp2
  go_loopw [8] (fun i wr => ∃ k : Nat, k ≤ n ∧ i = .int .i64 k ∧ (∀ j, j < k → stepP ps j = true) ∧ Bw (w.alloc (.cells #[.slice A n c] 26)) wr) (fun i _ => n - (intOf i).toNat)
  case atStart => exact ⟨0, Nat.zero_le _, rfl, fun j hj => absurd hj (by omega), Bw.refl _⟩
  case round =>
    obtain ⟨k, hk, rfl, hn', hbl⟩ := hrel
    have Hn := Lib.hid hn'
    clear hn'
    by_cases hlt : k < n
    · obtain ⟨b, off, rfl, hb, hc⟩ := (h.keep (Bw.trans (Bw.alloc (Bw.refl _) _) hbl)).ints (by omega)
      have q0 := hc k hlt
      clear hc
      by_cases hk0 : k = 0
      · have d0 : ((k : Int) == 0) = true := by simpa using hk0
        have d1 : ¬ (0 : Int) < (k : Int) := by omega
        have HK := Lib.hid hk0
        clear hk0
        by_cases hz : intAt ps k = -1
        · have hz' : (intAt ps k != -1) = false := by simpa using hz
          have HS := Lib.hid (show stepP ps k = true by rw [HK.out] at hz ⊢; simp [stepP, hz])
          clear hz
          go_wp2
          go_roundw
          case rel => exact ⟨k + 1, by omega, by go_num, snoc_lt Hn.out HS.out, hbl⟩
          case measure => simp [intOf]; omega
        · have hz' : (intAt ps k != -1) = true := by simpa using hz
          have HS := Lib.hid (show stepP ps k = false by rw [HK.out] at hz ⊢; simp [stepP, hz])
          clear hz
          go_wp2
          go_ret
          exact ⟨ret_bool (goodP_false (by rw [hl.out]; exact hlt) HS.out).symm, Bw.trans (Bw.alloc (Bw.refl _) _) hbl⟩
      · have d0 : ((k : Int) == 0) = false := by simpa using hk0
        have d1 : decide ((0 : Int) < (k : Int)) = true := by simp; omega
        cases hs : inR (intAt ps k) 0 ((k : Int) - 1)
        · have HS := Lib.hid (show stepP ps k = false by simp [stepP, hk0, hs])
          go_wp2_with (go_at_call 54; refine (c_within _ _ _ hs _).mono ?_; rintro e w1 ⟨rfl, rfl⟩)
          go_ret
          exact ⟨ret_bool (goodP_false (by rw [hl.out]; exact hlt) HS.out).symm, Bw.trans (Bw.alloc (Bw.refl _) _) hbl⟩
        · have HS := Lib.hid (show stepP ps k = true by simp [stepP, hk0, hs])
          go_wp2_with (go_at_call 54; refine (c_within _ _ _ hs _).mono ?_; rintro e w1 ⟨rfl, rfl⟩)
          go_roundw
          case rel => exact ⟨k + 1, by omega, by go_num, snoc_lt Hn.out HS.out, hbl⟩
          case measure => simp [intOf]; omega
    · have b0 := hbl.cellv (p := ⟨w.heap.size, 0, none⟩) (v := .slice A n c) (by go_simp)
      cases h28 : inR n 2 8
      · go_wp2_with (go_at_call 54; refine (c_within _ _ _ h28 _).mono ?_; rintro e w1 ⟨rfl, rfl⟩)
        go_ret
        exact ⟨ret_bool (goodP_len (by rw [hl.out]; exact h28)).symm, Bw.trans (Bw.alloc (Bw.refl _) _) hbl⟩
      · go_wp2_with (go_at_call 54; refine (c_within _ _ _ h28 _).mono ?_; rintro e w1 ⟨rfl, rfl⟩)
        go_ret
        exact ⟨ret_bool (goodP_true (by rw [hl.out]; exact h28) (by rw [hl.out]; intro j hj; exact Hn.out j (by omega))).symm, Bw.trans (Bw.alloc (Bw.refl _) _) hbl⟩
end Go.Proofs.YtpjljbhodnlhmaaGreatDoor
