
/- Send windows: the serials of all items. -/
import Derived.Test.YtpjljbhodnlhmaaGreatDoorS5
import Derived.Test.YtpjljbhodnlhmaaGreatDoorS7
import Derived.Test.YtpjljbhodnlhmaaGreatDoorI
namespace Go.Proofs.YtpjljbhodnlhmaaGreatDoor
open Go.RowKit
def heldS (t : Int) (n : Nat) : List Int := (List.range n).map (fun (i : Nat) => aftI t (i : Int))
theorem heldS_len (t : Int) (n : Nat) : (heldS t n).length = n := by simp [heldS]
theorem heldS_succ (t : Int) (k : Nat) : heldS t (k + 1) = heldS t k ++ [aftI t k] := by simp [heldS, List.range_succ]
def heldL (t z : Int) (ss : List ByteArray) : List Int := if swB t z ss = true then heldS t ss.length else []
theorem heldL_len (t z : Int) (ss : List ByteArray) : (heldL t z ss).length ≤ ss.length := by
  unfold heldL; split
  · rw [heldS_len]; exact Nat.le_refl _
  · simp
theorem c_markSendWindow (t z : Int) (A : Option Addr) (n c : Nat) (ss : List ByteArray) (lo : Nat) (w : World) (hn : n ≤ 1048576) (h : Row w lo 9 1 scell A n c ss) :
    Calls Tryz.prog 60 #[.agg #[.int .i64 t, .int .i64 z, .slice A n c], .int .i64 1] w fun e w' => e = .returned (.int .i64 (1 + n)) ∧ w.grownBy w' (Value.ownBlock (.slice A n c)) := by
  go_enter Tryz.func60, Tryz.ntmps60
  go_wp2_with (go_at_call 108; refine (c_markStringS _ _ _ ss 1 lo _ hn (by omega) (by omega) (h.keep (Bw.alloc (Bw.refl _) _))).mono ?_; rintro e w1 ⟨rfl, _, hg1⟩)
  go_ret
  exact ⟨rfl, (Bw.alloc (Bw.refl _) _).toGrown.weaken.trans hg1⟩
end Go.Proofs.YtpjljbhodnlhmaaGreatDoor
