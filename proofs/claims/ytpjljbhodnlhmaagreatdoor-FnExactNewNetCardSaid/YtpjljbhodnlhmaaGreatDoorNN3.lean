
/- Equality of new networks. -/
import Derived.Test.YtpjljbhodnlhmaaGreatDoorNN2
import Derived.Test.YtpjljbhodnlhmaaGreatDoorP5T
namespace Go.Proofs.YtpjljbhodnlhmaaGreatDoor
open Go.RowKit
theorem n_eqElement (x : Int) (w : World) : Calls Tryz.prog 57 #[.agg #[.int .i64 x, .slice none 0 0], .agg #[.int .i64 x, .slice none 0 0]] w fun e w' => e = .returned (.bool true) ∧ Bw w w' := by
  go_enter Tryz.func57, Tryz.ntmps57
  go_wp2_with (go_at_call 104; refine (n_eqEntryS _).mono ?_; rintro e w1 ⟨rfl, hb1⟩)
  go_ret
  exact ⟨rfl, Bw.trans (by (repeat (first | with_reducible assumption | exact Bw.refl _ | (with_reducible refine Bw.setCell ?_ (by simp) _) | (with_reducible refine Bw.alloc ?_ _) | (with_reducible refine Bw.drew ?_) | (with_reducible refine Bw.drewN ?_ _)))) hb1⟩
theorem n_eqReceiveWindow (x : Int) (w : World) : Calls Tryz.prog 105 #[.agg #[.int .i64 x, .slice none 0 0], .agg #[.int .i64 x, .slice none 0 0]] w fun e w' => e = .returned (.bool true) ∧ Bw w w' := by
  go_enter Tryz.func105, Tryz.ntmps105
  go_wp2_with (go_at_call 142; refine (n_eqSlotS _).mono ?_; rintro e w1 ⟨rfl, hb1⟩)
  go_ret
  exact ⟨rfl, Bw.trans (by (repeat (first | with_reducible assumption | exact Bw.refl _ | (with_reducible refine Bw.setCell ?_ (by simp) _) | (with_reducible refine Bw.alloc ?_ _) | (with_reducible refine Bw.drew ?_) | (with_reducible refine Bw.drewN ?_ _)))) hb1⟩
theorem n_eqReceiver (b : Bool) (x y : Int) (w : World) : Calls Tryz.prog 58 #[.agg #[.bool b, .int .i64 x, .int .i64 y, .slice none 0 0, .slice none 0 0], .agg #[.bool b, .int .i64 x, .int .i64 y, .slice none 0 0, .slice none 0 0]] w fun e w' => e = .returned (.bool true) ∧ Bw w w' := by
  have hbb : (b != b) = false := by simp
  go_enter Tryz.func58, Tryz.ntmps58
  go_wp2_with (first
    | (go_at_call 105; refine (n_eqReceiveWindow _ _).mono ?_; rintro e w1 ⟨rfl, hb1⟩; have d0 := hb1.cellv (p := ⟨w.heap.size, 4, none⟩) (v := .slice none 0 0) (by go_simp); have d1 := hb1.cellv (p := ⟨w.heap.size + 1, 4, none⟩) (v := .slice none 0 0) (by go_simp))
    | (go_at_call 106; refine (n_eqRequestS _).mono ?_; rintro e w2 ⟨rfl, hb2⟩))
  go_ret
  exact ⟨rfl, (Bw.trans (by (repeat (first | with_reducible assumption | exact Bw.refl _ | (with_reducible refine Bw.setCell ?_ (by simp) _) | (with_reducible refine Bw.alloc ?_ _) | (with_reducible refine Bw.drew ?_) | (with_reducible refine Bw.drewN ?_ _)))) hb1).trans hb2⟩
theorem n_eqElementS (A A' : Option Addr) (n c c' : Nat) (es : List Int) (w : World) (hm : n ≤ 9223372036854775807) (h : Rd w A n 2 (es.map eE)) (h' : Rd w A' n 2 (es.map eE)) :
    Calls Tryz.prog 27 #[.slice A n c, .slice A' n c'] w fun e w' => e = .returned (.bool true) ∧ Bw w w' := by
  go_enter Tryz.func27, Tryz.ntmps27
  go_wp2
  go_loopw [5] (fun i wr => ∃ k : Nat, k ≤ n ∧ i = .int .i64 k ∧ Bw w wr) (fun i _ => n - (intOf i).toNat)
  case atStart => exact ⟨0, Nat.zero_le _, rfl, Bw.refl _⟩
  case round =>
    obtain ⟨k, hk, rfl, hbl⟩ := hrel
    by_cases hlt : k < n
    · obtain ⟨b, off, rfl, hb, hc⟩ := (h.keep hbl).elF (by omega)
      obtain ⟨b', off', rfl, hb', hc'⟩ := (h'.keep hbl).elF (by omega)
      have ⟨h0, h1⟩ := hc k hlt
      have ⟨p0, p1⟩ := hc' k hlt
      clear hc hc'
      go_wp2
      (refine wp_region_ext (by kernel_rfl) (by kernel_rfl) ?_; (repeat (go_big_quiet_step ((exact Ext.calls (n_eqElement _ _))))); (with_reducible refine wpQuiet_nil ?_); intro w2 hb2)
      go_wp2
      go_roundw
      case rel => exact ⟨k + 1, by omega, by go_num, hbl.trans hb2⟩
      case measure => simp [intOf]; omega
    · go_wp2
      go_ret
      exact ⟨rfl, hbl⟩
theorem n_eqReceiverS (A A' : Option Addr) (n c c' : Nat) (rs : List (Bool × Int × Int)) (w : World) (hm : n ≤ 9223372036854775807) (h : Rd w A n 5 (rs.map eR)) (h' : Rd w A' n 5 (rs.map eR)) :
    Calls Tryz.prog 28 #[.slice A n c, .slice A' n c'] w fun e w' => e = .returned (.bool true) ∧ Bw w w' := by
  go_enter Tryz.func28, Tryz.ntmps28
  go_wp2
  go_loopw [5] (fun i wr => ∃ k : Nat, k ≤ n ∧ i = .int .i64 k ∧ Bw w wr) (fun i _ => n - (intOf i).toNat)
  case atStart => exact ⟨0, Nat.zero_le _, rfl, Bw.refl _⟩
  case round =>
    obtain ⟨k, hk, rfl, hbl⟩ := hrel
    by_cases hlt : k < n
    · obtain ⟨b, off, rfl, hb, hc⟩ := (h.keep hbl).reF (by omega)
      obtain ⟨b', off', rfl, hb', hc'⟩ := (h'.keep hbl).reF (by omega)
      have ⟨h0, h1, h2, h3, h4⟩ := hc k hlt
      have ⟨p0, p1, p2, p3, p4⟩ := hc' k hlt
      clear hc hc'
      go_wp2
      (refine wp_region_ext (by kernel_rfl) (by kernel_rfl) ?_; (repeat (go_big_quiet_step ((exact Ext.calls (n_eqReceiver _ _ _ _))))); (with_reducible refine wpQuiet_nil ?_); intro w2 hb2)
      go_wp2
      go_roundw
      case rel => exact ⟨k + 1, by omega, by go_num, hbl.trans hb2⟩
      case measure => simp [intOf]; omega
    · go_wp2
      go_ret
      exact ⟨rfl, hbl⟩
theorem n_eqPacketSS (A A' : Option Addr) (n c c' : Nat) (us : List Unit) (w : World) (hm : n ≤ 9223372036854775807) (h : Rd w A n 1 (us.map eQ)) (h' : Rd w A' n 1 (us.map eQ)) :
    Calls Tryz.prog 29 #[.slice A n c, .slice A' n c'] w fun e w' => e = .returned (.bool true) ∧ Bw w w' := by
  go_enter Tryz.func29, Tryz.ntmps29
  go_wp2
  go_loopw [5] (fun i wr => ∃ k : Nat, k ≤ n ∧ i = .int .i64 k ∧ Bw w wr) (fun i _ => n - (intOf i).toNat)
  case atStart => exact ⟨0, Nat.zero_le _, rfl, Bw.refl _⟩
  case round =>
    obtain ⟨k, hk, rfl, hbl⟩ := hrel
    by_cases hlt : k < n
    · obtain ⟨b, off, rfl, hb, hc⟩ := (h.keep hbl).quF (by omega)
      obtain ⟨b', off', rfl, hb', hc'⟩ := (h'.keep hbl).quF (by omega)
      have h0 := hc k hlt
      have p0 := hc' k hlt
      clear hc hc'
      go_wp2
      (refine wp_region_ext (by kernel_rfl) (by kernel_rfl) ?_; (repeat (go_big_quiet_step ((exact Ext.calls (n_eqPacketS _))))); (with_reducible refine wpQuiet_nil ?_); intro w2 hb2)
      go_wp2
      go_roundw
      case rel => exact ⟨k + 1, by omega, by go_num, hbl.trans hb2⟩
      case measure => simp [intOf]; omega
    · go_wp2
      go_ret
      exact ⟨rfl, hbl⟩
end Go.Proofs.YtpjljbhodnlhmaaGreatDoor
