
/- rHas, and the searches of a list of numbers. -/
import Derived.Test.YthciecmofgoebaaGreatDoorI2
namespace Go.Proofs.YthciecmofgoebaaGreatDoor
open Go.RowKit
theorem c_vHas (A : Option Addr) (n c : Nat) (ts : List Int) (x : Int) {r : Bool} (hr : hasI ts x = r) (w : World) (hn : n ≤ 9223372036854775807) (h : Rd w A n 1 (ts.map icell)) :
    Calls Tryz.prog 18 #[.slice A n c, .int .i64 x] w fun e w' => e = .returned (.bool r) ∧ w = w' := by
  subst hr
  have hl := Lib.hid h.ilen
  go_enter Tryz.func18, Tryz.ntmps18
  go_wp2
  go_loop [5] (fun i => ∃ k : Nat, k ≤ n ∧ i = .int .i64 k ∧ ∀ j, j < k → intAt ts j ≠ x) (fun i => n - (intOf i).toNat)
  case atStart => exact ⟨0, Nat.zero_le _, rfl, fun j hj => absurd hj (by omega)⟩
  case round =>
    obtain ⟨k, hk, rfl, hn'⟩ := hrel
    have Hn := Lib.hid hn'
    clear hn'
    by_cases hlt : k < n
    · obtain ⟨b, off, rfl, hb, hc⟩ := h.ints (by omega)
      have h0 := hc k hlt
      clear hc
      by_cases he : intAt ts k = x
      · have he' : (intAt ts k == x) = true := by simpa using he
        have HE := Lib.hid he
        clear he
        go_wp2
        go_ret
        exact ⟨ret_bool (hasI_at (by rw [hl.out]; exact hlt) HE.out).symm, rfl⟩
      · have he' : (intAt ts k == x) = false := by simpa using he
        have HE := Lib.hid he
        clear he
        go_wp2
        go_round
        case rel => exact ⟨k + 1, by omega, by go_num, snoc_lt Hn.out HE.out⟩
        case measure => simp [intOf]; omega
    · go_wp2
      go_ret
      exact ⟨ret_bool (hasI_none (ts := ts) (x := x) (by rw [hl.out]; intro j hj; exact Hn.out j (by omega))).symm, rfl⟩
end Go.Proofs.YthciecmofgoebaaGreatDoor
