
/- Faces: rising numbers, within bounds. -/
import Derived.Test.YtpjljbhodnlhmaaGreatDoorE2
namespace Go.Proofs.YtpjljbhodnlhmaaGreatDoor
open Go.RowKit
def stepF (lo hi : Int) (fs : List Int) (k : Nat) : Bool := inR (intAt fs k) lo hi && (k == 0 || decide (intAt fs (k - 1) < intAt fs k))
def riseB (lo hi : Int) (fs : List Int) : Bool := allB (stepF lo hi fs) fs.length
theorem riseB_false {lo hi : Int} {fs : List Int} {k : Nat} (hk : k < fs.length) (h : stepF lo hi fs k = false) : riseB lo hi fs = false := by simp [riseB, allB_false hk h]
theorem riseB_true {lo hi : Int} {fs : List Int} (h : ∀ j, j < fs.length → stepF lo hi fs j = true) : riseB lo hi fs = true := by simp [riseB, allB_true h]
theorem c_l1Rising (A : Option Addr) (n c : Nat) (fs : List Int) (lo hi : Int) {r : Bool} (hr : riseB lo hi fs = r) (w : World) (hm : n ≤ 9223372036854775807) (h : Rd w A n 1 (fs.map icell)) :
    Calls Tryz.prog 167 #[.slice A n c, .int .i64 lo, .int .i64 hi] w fun e w' => e = .returned (.bool r) ∧ Bw w w' := by
  subst hr
  have hl := Lib.hid h.ilen
  go_enter Tryz.func167, Tryz.ntmps167
  go_wp2
  go_loopw [7] (fun i wr => ∃ k : Nat, k ≤ n ∧ i = .int .i64 k ∧ (∀ j, j < k → stepF lo hi fs j = true) ∧ Bw w wr) (fun i _ => n - (intOf i).toNat)
  case atStart => exact ⟨0, Nat.zero_le _, rfl, fun j hj => absurd hj (by omega), Bw.refl _⟩
  case round =>
    obtain ⟨k, hk, rfl, hst, hbl⟩ := hrel
    have Hst := Lib.hid hst
    clear hst
    by_cases hlt : k < n
    · obtain ⟨b, off, rfl, hb, hc⟩ := (h.keep hbl).ints (by omega)
      have h0 := hc k hlt
      have Hf := Lib.hid (fun hh => riseB_false (lo := lo) (hi := hi) (fs := fs) (k := k) (by rw [hl.out]; exact hlt) hh)
      by_cases hk0 : 0 < k
      · have p0 := hc (k - 1) (by omega)
        have e1 : ((k : Int) - 1).toNat = k - 1 := by omega
        have d0 : decide ((0 : Int) < (k : Int)) = true := by simpa using hk0
        clear hc
        cases ho : inR (intAt fs k) lo hi
        · (go_wp2; (refine wp_region_ext (by kernel_rfl) (by kernel_rfl) ?_; (repeat (go_big_quiet_step (exact Ext.same (c_l1In _ _ _ ho _)))); (with_reducible refine wpQuiet_nil ?_); intro w2 hb2); go_wp2)
          go_ret
          exact ⟨ret_bool (Hf.out (by simp [stepF, ho])).symm, hbl.trans hb2⟩
        · cases hs : decide (intAt fs k ≤ intAt fs (k - 1))
          all_goals
            (go_wp2; (refine wp_region_ext (by kernel_rfl) (by kernel_rfl) ?_; (repeat (go_big_quiet_step (exact Ext.same (c_l1In _ _ _ ho _)))); (with_reducible refine wpQuiet_nil ?_); intro w2 hb2); go_wp2)
          · have hs' := of_decide_eq_false hs
            go_roundw
            case rel => exact ⟨k + 1, by omega, by go_num, snoc_lt Hst.out (by simp [stepF, ho]; omega), hbl.trans hb2⟩
            case measure => simp [intOf]; omega
          · have hs' := of_decide_eq_true hs
            go_ret
            exact ⟨ret_bool (Hf.out (by simp [stepF, ho]; omega)).symm, hbl.trans hb2⟩
      · have d0 : decide ((0 : Int) < (k : Int)) = false := by simpa using hk0
        clear hc
        cases ho : inR (intAt fs k) lo hi
        all_goals
          (go_wp2; (refine wp_region_ext (by kernel_rfl) (by kernel_rfl) ?_; (repeat (go_big_quiet_step (exact Ext.same (c_l1In _ _ _ ho _)))); (with_reducible refine wpQuiet_nil ?_); intro w2 hb2); go_wp2)
        · go_ret
          exact ⟨ret_bool (Hf.out (by simp [stepF, ho])).symm, hbl.trans hb2⟩
        · go_roundw
          case rel => exact ⟨k + 1, by omega, by go_num, snoc_lt Hst.out (by simp [stepF, ho]; omega), hbl.trans hb2⟩
          case measure => simp [intOf]; omega
    · go_wp2
      go_ret
      exact ⟨ret_bool (riseB_true (by rw [hl.out]; intro j hj; exact Hst.out j (by omega))).symm, hbl⟩
theorem c_isFace (x : Int) {r : Bool} (h : inR x 1 7 = r) (w : World) : Calls Tryz.prog 163 #[.int .i64 x] w fun e w' => e = .returned (.bool r) ∧ w = w' := by
  go_enter Tryz.func163, Tryz.ntmps163
  go_wp2_with (go_at_call 54; refine (c_within _ _ _ h _).mono ?_; rintro e w1 ⟨rfl, rfl⟩)
  go_ret; exact ⟨rfl, rfl⟩
theorem c_areFaces (A : Option Addr) (n c : Nat) (fs : List Int) {r : Bool} (hr : riseB 1 7 fs = r) (w : World) (hm : n ≤ 9223372036854775807) (h : Rd w A n 1 (fs.map icell)) :
    Calls Tryz.prog 137 #[.slice A n c] w fun e w' => e = .returned (.bool r) ∧ Bw w w' := by
  subst hr
  have hl := Lib.hid h.ilen
  go_enter Tryz.func137, Tryz.ntmps137
  go_wp2
  go_loopw [7] (fun i wr => ∃ k : Nat, k ≤ n ∧ i = .int .i64 k ∧ (∀ j, j < k → stepF 1 7 fs j = true) ∧ Bw w wr) (fun i _ => n - (intOf i).toNat)
  case atStart => exact ⟨0, Nat.zero_le _, rfl, fun j hj => absurd hj (by omega), Bw.refl _⟩
  case round =>
    obtain ⟨k, hk, rfl, hst, hbl⟩ := hrel
    have Hst := Lib.hid hst
    clear hst
    by_cases hlt : k < n
    · obtain ⟨b, off, rfl, hb, hc⟩ := (h.keep hbl).ints (by omega)
      have h0 := hc k hlt
      have Hf := Lib.hid (fun hh => riseB_false (lo := 1) (hi := 7) (fs := fs) (k := k) (by rw [hl.out]; exact hlt) hh)
      by_cases hk0 : 0 < k
      · have p0 := hc (k - 1) (by omega)
        have e1 : ((k : Int) - 1).toNat = k - 1 := by omega
        have d0 : decide ((0 : Int) < (k : Int)) = true := by simpa using hk0
        clear hc
        cases ho : inR (intAt fs k) 1 7
        · (go_wp2_with (go_at_call 163; refine (c_isFace _ ho _).mono ?_; rintro e w1 ⟨rfl, rfl⟩))
          go_ret
          exact ⟨ret_bool (Hf.out (by simp [stepF, ho])).symm, hbl⟩
        · cases hs : decide (intAt fs k ≤ intAt fs (k - 1))
          all_goals
            (go_wp2_with (go_at_call 163; refine (c_isFace _ ho _).mono ?_; rintro e w1 ⟨rfl, rfl⟩))
          · have hs' := of_decide_eq_false hs
            go_roundw
            case rel => exact ⟨k + 1, by omega, by go_num, snoc_lt Hst.out (by simp [stepF, ho]; omega), hbl⟩
            case measure => simp [intOf]; omega
          · have hs' := of_decide_eq_true hs
            go_ret
            exact ⟨ret_bool (Hf.out (by simp [stepF, ho]; omega)).symm, hbl⟩
      · have d0 : decide ((0 : Int) < (k : Int)) = false := by simpa using hk0
        clear hc
        cases ho : inR (intAt fs k) 1 7
        all_goals
          (go_wp2_with (go_at_call 163; refine (c_isFace _ ho _).mono ?_; rintro e w1 ⟨rfl, rfl⟩))
        · go_ret
          exact ⟨ret_bool (Hf.out (by simp [stepF, ho])).symm, hbl⟩
        · go_roundw
          case rel => exact ⟨k + 1, by omega, by go_num, snoc_lt Hst.out (by simp [stepF, ho]; omega), hbl⟩
          case measure => simp [intOf]; omega
    · go_wp2
      go_ret
      exact ⟨ret_bool (riseB_true (by rw [hl.out]; intro j hj; exact Hst.out j (by omega))).symm, hbl⟩
theorem c_l14Faces (A : Option Addr) (n c : Nat) (fs : List Int) {r : Bool} (hr : riseB 1 7 fs = r) (w : World) (hm : n ≤ 9223372036854775807) (h : Rd w A n 1 (fs.map icell)) :
    Calls Tryz.prog 146 #[.slice A n c] w fun e w' => e = .returned (.bool r) ∧ Bw w w' := by
  go_enter Tryz.func146, Tryz.ntmps146
  go_wp2_with (go_at_call 167; refine (c_l1Rising _ _ _ fs _ _ hr _ hm h).mono ?_; rintro e w1 ⟨rfl, hb1⟩)
  go_ret
  exact ⟨rfl, hb1⟩
end Go.Proofs.YtpjljbhodnlhmaaGreatDoor
