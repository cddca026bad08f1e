
/- Send windows: lead, held items. -/
import Derived.Test.YthdmnngmijbcbaaDoorS4
import Derived.Deep.RegionHeld3
namespace Go.Proofs.YthdmnngmijbcbaaDoor
open Go.RowKit
theorem c_l9Lead (t z : Int) (A : Option Addr) (n c : Nat) {m : Int} (hm : aftI t n = m) (h0 : 0 ≤ t) (h1 : t ≤ 65535) (h2 : n ≤ 6) (w : World) :
    Calls Tryd.prog 55 #[.agg #[.int .i64 t, .int .i64 z, .slice A n c]] w fun e w' => e = .returned (.int .i64 m) ∧ Bw w w' := by
  go_enter Tryd.func55, Tryd.ntmps55
  go_wp2_with (go_at_call 66; refine (c_l2After _ _ hm (by omega) (by omega) (by omega) (by omega) _).mono ?_; rintro e w1 ⟨rfl, rfl⟩)
  go_ret
  exact ⟨rfl, by (repeat (first | with_reducible assumption | exact Bw.refl _ | (with_reducible refine Bw.setCell ?_ (by simp) _) | (with_reducible refine Bw.alloc ?_ _) | (with_reducible refine Bw.drew ?_) | (with_reducible refine Bw.drewN ?_ _)))⟩
theorem c_lead (t z : Int) (A : Option Addr) (n c : Nat) {m : Int} (hm : aftI t n = m) (h0 : 0 ≤ t) (h1 : t ≤ 65535) (h2 : n ≤ 6) (w : World) :
    Calls Tryd.prog 56 #[.agg #[.int .i64 t, .int .i64 z, .slice A n c]] w fun e w' => e = .returned (.int .i64 m) ∧ Bw w w' := by
  go_enter Tryd.func56, Tryd.ntmps56
  go_wp2_with (go_at_call 85; refine (c_after _ _ hm (by omega) (by omega) (by omega) (by omega) _).mono ?_; rintro e w1 ⟨rfl, rfl⟩)
  go_ret
  exact ⟨rfl, by (repeat (first | with_reducible assumption | exact Bw.refl _ | (with_reducible refine Bw.setCell ?_ (by simp) _) | (with_reducible refine Bw.alloc ?_ _) | (with_reducible refine Bw.drew ?_) | (with_reducible refine Bw.drewN ?_ _)))⟩
def leadR (t z : Int) (ss : List ByteArray) : Int := if swB t z ss = true then aftI t ss.length else 0
theorem c_sLeadOf (t z : Int) (A : Option Addr) (n c : Nat) (ss : List ByteArray) (hf : fitS ss) {m : Int} (hm : leadR t z ss = m) {r : Bool} (hr : swB t z ss = r) (w : World) (hn : n ≤ 9223372036854775807) (h : Rd w A n 1 (ss.map scell)) :
    Calls Tryd.prog 18 #[.agg #[.int .i64 t, .int .i64 z, .slice A n c]] w fun e w' => e = .returned (.tuple #[.int .i64 m, .bool r]) ∧ Bw w w' := by
  have hl := Lib.hid h.slen
  subst hr hm
  cases hg : swB t z ss
  · have HR := Lib.hid (show leadR t z ss = 0 by rw [leadR, hg]; rfl)
    go_enter Tryd.func18, Tryd.ntmps18
    go_wp2_with (go_at_call 49; refine (c_l9Good t z _ _ _ ss hf hg _ hn (h.keep (Bw.alloc (Bw.refl _) _))).mono ?_; rintro e w1 ⟨rfl, hb1⟩)
    go_ret2
    rw [HR.out]
    exact ⟨rfl, Bw.trans (Bw.alloc (Bw.refl _) _) hb1⟩
  · obtain ⟨g1, g2, g3, g4⟩ := swB_iff.1 hg
    have ⟨t0, t1⟩ := inR_iff.1 g1
    have ⟨z0, z1⟩ := inR_iff.1 g2
    have hn6 : n ≤ 6 := by have := hl.out; omega
    have HR := Lib.hid (show leadR t z ss = aftI t n by rw [leadR, hg, hl.out]; rfl)
    clear g1 g2 g3 g4
    go_enter Tryd.func18, Tryd.ntmps18
    go_wp2_with (first | (go_at_call 49; refine (c_l9Good t z _ _ _ ss hf hg _ hn (h.keep (Bw.alloc (Bw.refl _) _))).mono ?_; rintro e w1 ⟨rfl, hb1⟩; have d0 := hb1.cellv (p := ⟨w.heap.size, 0, none⟩) (v := .int .i64 t) (by go_simp); have d1 := hb1.cellv (p := ⟨w.heap.size, 1, none⟩) (v := .int .i64 z) (by go_simp); have d2 := hb1.cellv (p := ⟨w.heap.size, 2, none⟩) (v := .slice A n c) (by go_simp)) | (go_at_call 55; refine (c_l9Lead t z _ _ _ rfl t0 t1 hn6 _).mono ?_; rintro e w2 ⟨rfl, hb2⟩))
    go_ret2
    rw [HR.out]
    exact ⟨rfl, (Bw.trans (Bw.alloc (Bw.refl _) _) hb1).trans hb2⟩
theorem c_iLeadOf (t z : Int) (A : Option Addr) (n c : Nat) (ss : List ByteArray) (hf : fitS ss) {m : Int} (hm : leadR t z ss = m) {r : Bool} (hr : swB t z ss = r) (w : World) (hn : n ≤ 9223372036854775807) (h : Rd w A n 1 (ss.map scell)) :
    Calls Tryd.prog 19 #[.agg #[.int .i64 t, .int .i64 z, .slice A n c]] w fun e w' => e = .returned (.tuple #[.int .i64 m, .bool r]) ∧ Bw w w' := by
  have hl := Lib.hid h.slen
  subst hr hm
  cases hg : swB t z ss
  · have HR := Lib.hid (show leadR t z ss = 0 by rw [leadR, hg]; rfl)
    go_enter Tryd.func19, Tryd.ntmps19
    go_wp2_with (go_at_call 16; refine (c_IsValidSendWindow t z _ _ _ ss hf hg _ hn (h.keep (Bw.alloc (Bw.refl _) _))).mono ?_; rintro e w1 ⟨rfl, hb1⟩)
    go_ret2
    rw [HR.out]
    exact ⟨rfl, Bw.trans (Bw.alloc (Bw.refl _) _) hb1⟩
  · obtain ⟨g1, g2, g3, g4⟩ := swB_iff.1 hg
    have ⟨t0, t1⟩ := inR_iff.1 g1
    have ⟨z0, z1⟩ := inR_iff.1 g2
    have hn6 : n ≤ 6 := by have := hl.out; omega
    have HR := Lib.hid (show leadR t z ss = aftI t n by rw [leadR, hg, hl.out]; rfl)
    clear g1 g2 g3 g4
    go_enter Tryd.func19, Tryd.ntmps19
    go_wp2_with (first | (go_at_call 16; refine (c_IsValidSendWindow t z _ _ _ ss hf hg _ hn (h.keep (Bw.alloc (Bw.refl _) _))).mono ?_; rintro e w1 ⟨rfl, hb1⟩; have d0 := hb1.cellv (p := ⟨w.heap.size, 0, none⟩) (v := .int .i64 t) (by go_simp); have d1 := hb1.cellv (p := ⟨w.heap.size, 1, none⟩) (v := .int .i64 z) (by go_simp); have d2 := hb1.cellv (p := ⟨w.heap.size, 2, none⟩) (v := .slice A n c) (by go_simp)) | (go_at_call 56; refine (c_lead t z _ _ _ rfl t0 t1 hn6 _).mono ?_; rintro e w2 ⟨rfl, hb2⟩))
    go_ret2
    rw [HR.out]
    exact ⟨rfl, (Bw.trans (Bw.alloc (Bw.refl _) _) hb1).trans hb2⟩
def heldB (t : Int) (n : Nat) (x : Int) : Bool := decide (gapI t x < n)
theorem c_l9Held (t z : Int) (A : Option Addr) (n c : Nat) (x : Int) {r : Bool} (hr : heldB t n x = r) (h0 : 0 ≤ t) (h1 : t ≤ 65535) (x0 : 0 ≤ x) (x1 : x ≤ 65535) (hn : n ≤ 9223372036854775807) (w : World) :
    Calls Tryd.prog 58 #[.agg #[.int .i64 t, .int .i64 z, .slice A n c], .int .i64 x] w fun e w' => e = .returned (.bool r) ∧ Bw w w' := by
  have HR := Lib.hid (show decide (gapI t x < n) = r from hr)
  clear hr
  go_enter Tryd.func58, Tryd.ntmps58
  go_wp2
  (refine wp_region_ext (by kernel_rfl) (by kernel_rfl) ?_; (repeat (go_big_quiet_step (with_reducible exact Ext.same (c_l2Gap _ _ rfl h0 h1 x0 x1 _)))); (with_reducible refine wpQuiet_nil ?_); intro w2 hb2)
  go_wp2
  go_ret
  exact ⟨ret_bool HR.out, Bw.trans (Bw.alloc (Bw.refl _) _) hb2⟩
theorem c_isHeld (t z : Int) (A : Option Addr) (n c : Nat) (x : Int) {r : Bool} (hr : heldB t n x = r) (h0 : 0 ≤ t) (h1 : t ≤ 65535) (x0 : 0 ≤ x) (x1 : x ≤ 65535) (hn : n ≤ 9223372036854775807) (w : World) :
    Calls Tryd.prog 60 #[.agg #[.int .i64 t, .int .i64 z, .slice A n c], .int .i64 x] w fun e w' => e = .returned (.bool r) ∧ Bw w w' := by
  have HR := Lib.hid (show decide (gapI t x < n) = r from hr)
  clear hr
  go_enter Tryd.func60, Tryd.ntmps60
  go_wp2
  (refine wp_region_ext (by kernel_rfl) (by kernel_rfl) ?_; (repeat (go_big_quiet_step (with_reducible exact Ext.same (c_gap _ _ rfl h0 h1 x0 x1 _)))); (with_reducible refine wpQuiet_nil ?_); intro w2 hb2)
  go_wp2
  go_ret
  exact ⟨ret_bool HR.out, Bw.trans (Bw.alloc (Bw.refl _) _) hb2⟩
def itemC (t z : Int) (ss : List ByteArray) (x : Int) : Bool := swB t z ss && (inR x 0 65535 && heldB t ss.length x)
def itemR (t z : Int) (ss : List ByteArray) (x : Int) : ByteArray := if itemC t z ss x = true then strAt ss (gapI t x).toNat else ⟨#[]⟩
set_option maxRecDepth 100000 in
theorem c_sHeldItem (t z : Int) (A : Option Addr) (n c : Nat) (ss : List ByteArray) (hf : fitS ss) (x : Int) {m : ByteArray} (hm : itemR t z ss x = m) {r : Bool} (hr : itemC t z ss x = r) (w : World) (hn : n ≤ 9223372036854775807) (h : Rd w A n 1 (ss.map scell)) :
    Calls Tryd.prog 20 #[.agg #[.int .i64 t, .int .i64 z, .slice A n c], .int .i64 x] w fun e w' => e = .returned (.tuple #[.string m, .bool r]) ∧ Bw w w' := by
  have hl := Lib.hid h.slen
  subst hr hm
  cases hg : swB t z ss
  · have HR := Lib.hid (show itemR t z ss x = ⟨#[]⟩ ∧ itemC t z ss x = false by simp [itemR, itemC, hg])
    go_enter Tryd.func20, Tryd.ntmps20
    go_wp2_with (go_at_call 49; refine (c_l9Good t z _ _ _ ss hf hg _ hn (h.keep (Bw.alloc (Bw.refl _) _))).mono ?_; rintro e w1 ⟨rfl, hb1⟩)
    go_ret2
    rw [HR.out.1, HR.out.2]
    exact ⟨rfl, Bw.trans (Bw.alloc (Bw.refl _) _) hb1⟩
  · obtain ⟨g1, g2, g3, g4⟩ := swB_iff.1 hg
    have ⟨t0, t1⟩ := inR_iff.1 g1
    clear g1 g2 g3 g4
    cases hx : inR x 0 65535
    · have HR := Lib.hid (show itemR t z ss x = ⟨#[]⟩ ∧ itemC t z ss x = false by simp [itemR, itemC, hx])
      go_enter Tryd.func20, Tryd.ntmps20
      go_wp2_with (first | (go_at_call 49; refine (c_l9Good t z _ _ _ ss hf hg _ hn (h.keep (Bw.alloc (Bw.refl _) _))).mono ?_; rintro e w1 ⟨rfl, hb1⟩; have d0 := hb1.cellv (p := ⟨w.heap.size, 0, none⟩) (v := .int .i64 t) (by go_simp); have d1 := hb1.cellv (p := ⟨w.heap.size, 1, none⟩) (v := .int .i64 z) (by go_simp); have d2 := hb1.cellv (p := ⟨w.heap.size, 2, none⟩) (v := .slice A n c) (by go_simp)) | (go_at_call 57; refine (c_l2Good _ hx _).mono ?_; rintro e w2 ⟨rfl, rfl⟩))
      go_ret2
      rw [HR.out.1, HR.out.2]
      exact ⟨rfl, Bw.trans (Bw.alloc (Bw.refl _) _) hb1⟩
    · have ⟨x0, x1⟩ := inR_iff.1 hx
      cases hh : heldB t n x
      · have HR := Lib.hid (show itemR t z ss x = ⟨#[]⟩ ∧ itemC t z ss x = false by simp [itemR, itemC, hl.out, hh])
        go_enter Tryd.func20, Tryd.ntmps20
        go_wp2_with (first | (go_at_call 49; refine (c_l9Good t z _ _ _ ss hf hg _ hn (h.keep (Bw.alloc (Bw.refl _) _))).mono ?_; rintro e w1 ⟨rfl, hb1⟩; have d0 := hb1.cellv (p := ⟨w.heap.size, 0, none⟩) (v := .int .i64 t) (by go_simp); have d1 := hb1.cellv (p := ⟨w.heap.size, 1, none⟩) (v := .int .i64 z) (by go_simp); have d2 := hb1.cellv (p := ⟨w.heap.size, 2, none⟩) (v := .slice A n c) (by go_simp)) | (go_at_call 57; refine (c_l2Good _ hx _).mono ?_; rintro e w2 ⟨rfl, rfl⟩) | (go_at_call 58; refine (c_l9Held t z _ _ _ x hh t0 t1 x0 x1 hn _).mono ?_; rintro e w2 ⟨rfl, hb2⟩))
        go_ret2
        rw [HR.out.1, HR.out.2]
        exact ⟨rfl, (Bw.trans (Bw.alloc (Bw.refl _) _) hb1).trans hb2⟩
      · obtain ⟨k, hk⟩ := Int.eq_ofNat_of_zero_le (gapI_bd t x).1
        have hkn : k < n := by have h5 := hh; simp only [heldB, hk, decide_eq_true_eq] at h5; exact_mod_cast h5
        have HK := Lib.hid hk
        have HR := Lib.hid (show itemR t z ss x = strAt ss k ∧ itemC t z ss x = true by simp [itemR, itemC, hl.out, hh, hg, hx, hk])
        clear hk
        obtain ⟨b, off, rfl, hb, hc⟩ := h.strs (by omega)
        have h0 := hc k hkn
        clear hc
        go_enter Tryd.func20, Tryd.ntmps20
        go_wp2_with (first | (go_at_call 49; refine (c_l9Good t z _ _ _ ss hf hg _ hn (h.keep (Bw.alloc (Bw.refl _) _))).mono ?_; rintro e w1 ⟨rfl, hb1⟩; have d0 := hb1.cellv (p := ⟨w.heap.size, 0, none⟩) (v := .int .i64 t) (by go_simp); have d1 := hb1.cellv (p := ⟨w.heap.size, 1, none⟩) (v := .int .i64 z) (by go_simp); have d2 := hb1.cellv (p := ⟨w.heap.size, 2, none⟩) (v := .slice (some ⟨b, off, none⟩) n c) (by go_simp); have k1 := Bw.trans (Bw.alloc (Bw.refl _) _) hb1; have h01 := k1.cellv h0) | (go_at_call 57; refine (c_l2Good _ hx _).mono ?_; rintro e w2 ⟨rfl, rfl⟩) | (go_at_call 58; refine (c_l9Held t z _ _ _ x hh t0 t1 x0 x1 hn _).mono ?_; rintro e w2 ⟨rfl, hb2⟩; have e0 := hb2.cellv d0; have e1 := hb2.cellv d1; have e2 := hb2.cellv d2; have h02 := hb2.cellv h01; have l0 := World.block_lt_of_cell? w2 _ e0; have l1 := World.block_lt_of_cell? w2 _ h02; clear d0 d1 d2 h01 h0))
        refine wp_region_ext (by kernel_rfl) (by kernel_rfl) ?_
        (repeat (go_big_quiet_step (with_reducible exact Ext.same (c_l2Gap _ _ HK.out t0 t1 x0 x1 _))))
        (with_reducible refine wpQuiet_nil ?_)
        intro w4 hb4
        go_wp2
        go_ret2
        rw [HR.out.1, HR.out.2]
        exact ⟨rfl, (k1.trans hb2).trans hb4⟩
set_option maxRecDepth 100000 in
theorem c_iHeldItem (t z : Int) (A : Option Addr) (n c : Nat) (ss : List ByteArray) (hf : fitS ss) (x : Int) {m : ByteArray} (hm : itemR t z ss x = m) {r : Bool} (hr : itemC t z ss x = r) (w : World) (hn : n ≤ 9223372036854775807) (h : Rd w A n 1 (ss.map scell)) :
    Calls Tryd.prog 21 #[.agg #[.int .i64 t, .int .i64 z, .slice A n c], .int .i64 x] w fun e w' => e = .returned (.tuple #[.string m, .bool r]) ∧ Bw w w' := by
  have hl := Lib.hid h.slen
  subst hr hm
  cases hg : swB t z ss
  · have HR := Lib.hid (show itemR t z ss x = ⟨#[]⟩ ∧ itemC t z ss x = false by simp [itemR, itemC, hg])
    go_enter Tryd.func21, Tryd.ntmps21
    go_wp2_with (go_at_call 16; refine (c_IsValidSendWindow t z _ _ _ ss hf hg _ hn (h.keep (Bw.alloc (Bw.refl _) _))).mono ?_; rintro e w1 ⟨rfl, hb1⟩)
    go_ret2
    rw [HR.out.1, HR.out.2]
    exact ⟨rfl, Bw.trans (Bw.alloc (Bw.refl _) _) hb1⟩
  · obtain ⟨g1, g2, g3, g4⟩ := swB_iff.1 hg
    have ⟨t0, t1⟩ := inR_iff.1 g1
    clear g1 g2 g3 g4
    cases hx : inR x 0 65535
    · have HR := Lib.hid (show itemR t z ss x = ⟨#[]⟩ ∧ itemC t z ss x = false by simp [itemR, itemC, hx])
      go_enter Tryd.func21, Tryd.ntmps21
      go_wp2_with (first | (go_at_call 16; refine (c_IsValidSendWindow t z _ _ _ ss hf hg _ hn (h.keep (Bw.alloc (Bw.refl _) _))).mono ?_; rintro e w1 ⟨rfl, hb1⟩; have d0 := hb1.cellv (p := ⟨w.heap.size, 0, none⟩) (v := .int .i64 t) (by go_simp); have d1 := hb1.cellv (p := ⟨w.heap.size, 1, none⟩) (v := .int .i64 z) (by go_simp); have d2 := hb1.cellv (p := ⟨w.heap.size, 2, none⟩) (v := .slice A n c) (by go_simp)) | (go_at_call 51; refine (c_IsSerial _ hx _).mono ?_; rintro e w2 ⟨rfl, rfl⟩))
      go_ret2
      rw [HR.out.1, HR.out.2]
      exact ⟨rfl, Bw.trans (Bw.alloc (Bw.refl _) _) hb1⟩
    · have ⟨x0, x1⟩ := inR_iff.1 hx
      cases hh : heldB t n x
      · have HR := Lib.hid (show itemR t z ss x = ⟨#[]⟩ ∧ itemC t z ss x = false by simp [itemR, itemC, hl.out, hh])
        go_enter Tryd.func21, Tryd.ntmps21
        go_wp2_with (first | (go_at_call 16; refine (c_IsValidSendWindow t z _ _ _ ss hf hg _ hn (h.keep (Bw.alloc (Bw.refl _) _))).mono ?_; rintro e w1 ⟨rfl, hb1⟩; have d0 := hb1.cellv (p := ⟨w.heap.size, 0, none⟩) (v := .int .i64 t) (by go_simp); have d1 := hb1.cellv (p := ⟨w.heap.size, 1, none⟩) (v := .int .i64 z) (by go_simp); have d2 := hb1.cellv (p := ⟨w.heap.size, 2, none⟩) (v := .slice A n c) (by go_simp)) | (go_at_call 51; refine (c_IsSerial _ hx _).mono ?_; rintro e w2 ⟨rfl, rfl⟩) | (go_at_call 60; refine (c_isHeld t z _ _ _ x hh t0 t1 x0 x1 hn _).mono ?_; rintro e w2 ⟨rfl, hb2⟩))
        go_ret2
        rw [HR.out.1, HR.out.2]
        exact ⟨rfl, (Bw.trans (Bw.alloc (Bw.refl _) _) hb1).trans hb2⟩
      · obtain ⟨k, hk⟩ := Int.eq_ofNat_of_zero_le (gapI_bd t x).1
        have hkn : k < n := by have h5 := hh; simp only [heldB, hk, decide_eq_true_eq] at h5; exact_mod_cast h5
        have HK := Lib.hid hk
        have HR := Lib.hid (show itemR t z ss x = strAt ss k ∧ itemC t z ss x = true by simp [itemR, itemC, hl.out, hh, hg, hx, hk])
        clear hk
        obtain ⟨b, off, rfl, hb, hc⟩ := h.strs (by omega)
        have h0 := hc k hkn
        clear hc
        go_enter Tryd.func21, Tryd.ntmps21
        go_wp2_with (first | (go_at_call 16; refine (c_IsValidSendWindow t z _ _ _ ss hf hg _ hn (h.keep (Bw.alloc (Bw.refl _) _))).mono ?_; rintro e w1 ⟨rfl, hb1⟩; have d0 := hb1.cellv (p := ⟨w.heap.size, 0, none⟩) (v := .int .i64 t) (by go_simp); have d1 := hb1.cellv (p := ⟨w.heap.size, 1, none⟩) (v := .int .i64 z) (by go_simp); have d2 := hb1.cellv (p := ⟨w.heap.size, 2, none⟩) (v := .slice (some ⟨b, off, none⟩) n c) (by go_simp); have k1 := Bw.trans (Bw.alloc (Bw.refl _) _) hb1; have h01 := k1.cellv h0) | (go_at_call 51; refine (c_IsSerial _ hx _).mono ?_; rintro e w2 ⟨rfl, rfl⟩) | (go_at_call 60; refine (c_isHeld t z _ _ _ x hh t0 t1 x0 x1 hn _).mono ?_; rintro e w2 ⟨rfl, hb2⟩; have e0 := hb2.cellv d0; have e1 := hb2.cellv d1; have e2 := hb2.cellv d2; have h02 := hb2.cellv h01; have l0 := World.block_lt_of_cell? w2 _ e0; have l1 := World.block_lt_of_cell? w2 _ h02; clear d0 d1 d2 h01 h0))
        refine wp_region_ext (by kernel_rfl) (by kernel_rfl) ?_
        (repeat (go_big_quiet_step (with_reducible exact Ext.same (c_gap _ _ HK.out t0 t1 x0 x1 _))))
        (with_reducible refine wpQuiet_nil ?_)
        intro w4 hb4
        go_wp2
        go_ret2
        rw [HR.out.1, HR.out.2]
        exact ⟨rfl, (k1.trans hb2).trans hb4⟩
end Go.Proofs.YthdmnngmijbcbaaDoor
