
/- Send windows: lead, held items. -/
import Derived.Test.YtpjljbhodnlhmaaGreatDoorS4
import Derived.Deep.RegionHeld3
namespace Go.Proofs.YtpjljbhodnlhmaaGreatDoor
open Go.RowKit
def leadR (t z : Int) (ss : List ByteArray) : Int := if swB t z ss = true then aftI t ss.length else 0
def heldB (t : Int) (n : Nat) (x : Int) : Bool := decide (gapI t x < n)
theorem c_l9Held (t z : Int) (A : Option Addr) (n c : Nat) (x : Int) {r : Bool} (hr : heldB t n x = r) (h0 : 0 ≤ t) (h1 : t ≤ 65535) (x0 : 0 ≤ x) (x1 : x ≤ 65535) (hn : n ≤ 9223372036854775807) (w : World) :
    Calls Tryz.prog 100 #[.agg #[.int .i64 t, .int .i64 z, .slice A n c], .int .i64 x] w fun e w' => e = .returned (.bool r) ∧ Bw w w' := by
  have HR := Lib.hid (show decide (gapI t x < n) = r from hr)
  clear hr
  go_enter Tryz.func100, Tryz.ntmps100
  go_wp2
  (refine wp_region_ext (by kernel_rfl) (by kernel_rfl) ?_; (repeat (go_big_quiet_step (with_reducible exact Ext.same (c_l2Gap _ _ rfl h0 h1 x0 x1 _)))); (with_reducible refine wpQuiet_nil ?_); intro w2 hb2)
  go_wp2
  go_ret
  exact ⟨ret_bool HR.out, Bw.trans (Bw.alloc (Bw.refl _) _) hb2⟩
theorem c_isHeld (t z : Int) (A : Option Addr) (n c : Nat) (x : Int) {r : Bool} (hr : heldB t n x = r) (h0 : 0 ≤ t) (h1 : t ≤ 65535) (x0 : 0 ≤ x) (x1 : x ≤ 65535) (hn : n ≤ 9223372036854775807) (w : World) :
    Calls Tryz.prog 87 #[.agg #[.int .i64 t, .int .i64 z, .slice A n c], .int .i64 x] w fun e w' => e = .returned (.bool r) ∧ Bw w w' := by
  have HR := Lib.hid (show decide (gapI t x < n) = r from hr)
  clear hr
  go_enter Tryz.func87, Tryz.ntmps87
  go_wp2
  (refine wp_region_ext (by kernel_rfl) (by kernel_rfl) ?_; (repeat (go_big_quiet_step (with_reducible exact Ext.same (c_gap _ _ rfl h0 h1 x0 x1 _)))); (with_reducible refine wpQuiet_nil ?_); intro w2 hb2)
  go_wp2
  go_ret
  exact ⟨ret_bool HR.out, Bw.trans (Bw.alloc (Bw.refl _) _) hb2⟩
def itemC (t z : Int) (ss : List ByteArray) (x : Int) : Bool := swB t z ss && (inR x 0 65535 && heldB t ss.length x)
def itemR (t z : Int) (ss : List ByteArray) (x : Int) : ByteArray := if itemC t z ss x = true then strAt ss (gapI t x).toNat else ⟨#[]⟩
end Go.Proofs.YtpjljbhodnlhmaaGreatDoor
