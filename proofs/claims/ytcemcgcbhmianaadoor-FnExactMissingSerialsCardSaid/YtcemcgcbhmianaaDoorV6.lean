
/- Receive windows: waiting slots, items that are there. -/
import Derived.Test.YtcemcgcbhmianaaDoorV5
namespace Go.Proofs.YtcemcgcbhmianaaDoor
open Go.RowKit
def hasB (t : Int) (ts : List Slot) (x : Int) : Bool := decide (gapI t x < ts.length) && (slotAt ts (gapI t x).toNat).have_
def haveB (t : Int) (ts : List Slot) (x : Int) : Bool := befI x t || hasB t ts x
set_option maxRecDepth 100000 in
theorem c_has (t : Int) (A : Option Addr) (n c : Nat) (ts : List Slot) (x : Int) (t0 : 0 ≤ t) (t1 : t ≤ 65535) (x0 : 0 ≤ x) (x1 : x ≤ 65535) {r : Bool} (hr : hasB t ts x = r) (w : World) (hn : n ≤ 9223372036854775807) (h : Rd w A n 2 (ts.map Slot.cells)) :
    Calls Tryd.prog 75 #[.agg #[.int .i64 t, .slice A n c], .int .i64 x] w fun e w' => e = .returned (.bool r) ∧ Bw w w' := by
  have hl := Lib.hid h.slotlen
  have hbx : Bw w (w.alloc (.cells #[.int .i64 t, .slice A n c] 29)) := Bw.alloc (Bw.refl _) _
  subst hr
  obtain ⟨k, hk⟩ := Int.eq_ofNat_of_zero_le (gapI_bd t x).1
  have HK := Lib.hid hk
  by_cases hkn : k < n
  · have HE := Lib.hid (show hasB t ts x = (slotAt ts k).have_ by simp [hasB, hk, hl.out, hkn])
    obtain ⟨b, off, rfl, hb, hc⟩ := (h.keep hbx).slots (by omega)
    have q0 := (hc k hkn).1
    clear hc hk
    generalize (slotAt ts k).have_ = a0 at *
    rw [HE.out]
    cases a0
    all_goals
      go_enter Tryd.func75, Tryd.ntmps75
      go_wp2_with (go_at_call 63; refine (c_gap _ _ HK.out t0 t1 x0 x1 _).mono ?_; rintro e w2 ⟨rfl, rfl⟩)
      go_ret
      exact ⟨rfl, hbx⟩
  · have HE := Lib.hid (show hasB t ts x = false by simp [hasB, hk, hl.out]; intro h; omega)
    clear hk
    go_enter Tryd.func75, Tryd.ntmps75
    go_wp2_with (go_at_call 63; refine (c_gap _ _ HK.out t0 t1 x0 x1 _).mono ?_; rintro e w2 ⟨rfl, rfl⟩)
    go_ret
    rw [HE.out]
    exact ⟨rfl, hbx⟩
set_option maxRecDepth 100000 in
theorem c_haveItem (t : Int) (A : Option Addr) (n c : Nat) (ts : List Slot) (x : Int) (t0 : 0 ≤ t) (t1 : t ≤ 65535) (x0 : 0 ≤ x) (x1 : x ≤ 65535) {r : Bool} (hr : haveB t ts x = r) (w : World) (hn : n ≤ 9223372036854775807) (h : Rd w A n 2 (ts.map Slot.cells)) :
    Calls Tryd.prog 60 #[.agg #[.int .i64 t, .slice A n c], .int .i64 x] w fun e w' => e = .returned (.bool r) ∧ Bw w w' := by
  have hbx : Bw w (w.alloc (.cells #[.int .i64 t, .slice A n c] 29)) := Bw.alloc (Bw.refl _) _
  subst hr
  cases hb : befI x t
  · generalize hh : hasB t ts x = hv
    have HE := Lib.hid (show haveB t ts x = hv by simp [haveB, hb, hh])
    rw [HE.out]
    go_enter Tryd.func60, Tryd.ntmps60
    go_wp2_with (first | (go_at_call 96; refine (c_isBefore _ _ hb x0 x1 t0 t1 _).mono ?_; rintro e w1 ⟨rfl, rfl⟩) | (go_at_call 75; refine (c_has t _ _ _ ts x t0 t1 x0 x1 hh _ hn (h.keep hbx)).mono ?_; rintro e w2 ⟨rfl, hb2⟩))
    go_ret
    exact ⟨rfl, hbx.trans hb2⟩
  · have HE := Lib.hid (show haveB t ts x = true by simp [haveB, hb])
    rw [HE.out]
    go_enter Tryd.func60, Tryd.ntmps60
    go_wp2_with (go_at_call 96; refine (c_isBefore _ _ hb x0 x1 t0 t1 _).mono ?_; rintro e w1 ⟨rfl, rfl⟩)
    go_ret
    exact ⟨rfl, hbx⟩
set_option maxRecDepth 100000 in
theorem c_l10Have (t : Int) (A : Option Addr) (n c : Nat) (ts : List Slot) (x : Int) (t0 : 0 ≤ t) (t1 : t ≤ 65535) (x0 : 0 ≤ x) (x1 : x ≤ 65535) {r : Bool} (hr : haveB t ts x = r) (w : World) (hn : n ≤ 9223372036854775807) (h : Rd w A n 2 (ts.map Slot.cells)) :
    Calls Tryd.prog 59 #[.agg #[.int .i64 t, .slice A n c], .int .i64 x] w fun e w' => e = .returned (.bool r) ∧ Bw w w' := by
  have hl := Lib.hid h.slotlen
  have hbx : Bw w (w.alloc (.cells #[.int .i64 t, .slice A n c] 29)) := Bw.alloc (Bw.refl _) _
  subst hr
  obtain ⟨k, hk⟩ := Int.eq_ofNat_of_zero_le (gapI_bd t x).1
  have HK := Lib.hid hk
  cases hbf : befI x t
  · by_cases hkn : k < n
    · have HE := Lib.hid (show haveB t ts x = (slotAt ts k).have_ by simp [haveB, hbf, hasB, hk, hl.out, hkn])
      obtain ⟨b, off, rfl, hb, hc⟩ := (h.keep hbx).slots (by omega)
      have q0 := (hc k hkn).1
      clear hc hk
      generalize (slotAt ts k).have_ = a0 at *
      rw [HE.out]
      cases a0
      all_goals
        go_enter Tryd.func59, Tryd.ntmps59
        go_wp2_with (first | (go_at_call 61; refine (c_l2Gap _ _ HK.out t0 t1 x0 x1 _).mono ?_; rintro e w2 ⟨rfl, rfl⟩) | (go_at_call 95; refine (c_l2Before _ _ hbf x0 x1 t0 t1 _).mono ?_; rintro e w1 ⟨rfl, rfl⟩))
        go_ret
        exact ⟨rfl, hbx⟩
    · have HE := Lib.hid (show haveB t ts x = false by simp [haveB, hbf, hasB, hk, hl.out]; intro h; omega)
      clear hk
      rw [HE.out]
      go_enter Tryd.func59, Tryd.ntmps59
      go_wp2_with (first | (go_at_call 61; refine (c_l2Gap _ _ HK.out t0 t1 x0 x1 _).mono ?_; rintro e w2 ⟨rfl, rfl⟩) | (go_at_call 95; refine (c_l2Before _ _ hbf x0 x1 t0 t1 _).mono ?_; rintro e w1 ⟨rfl, rfl⟩))
      go_ret
      exact ⟨rfl, hbx⟩
  · have HE := Lib.hid (show haveB t ts x = true by simp [haveB, hbf])
    clear hk
    rw [HE.out]
    go_enter Tryd.func59, Tryd.ntmps59
    go_wp2_with (first | (go_at_call 61; refine (c_l2Gap _ _ HK.out t0 t1 x0 x1 _).mono ?_; rintro e w2 ⟨rfl, rfl⟩) | (go_at_call 95; refine (c_l2Before _ _ hbf x0 x1 t0 t1 _).mono ?_; rintro e w1 ⟨rfl, rfl⟩))
    go_ret
    exact ⟨rfl, hbx⟩
def haveC (t : Int) (ts : List Slot) (x : Int) : Bool := rwB t ts && inR x 0 65535
def haveR (t : Int) (ts : List Slot) (x : Int) : Bool := haveC t ts x && haveB t ts x
set_option maxRecDepth 100000 in
theorem c_sHaveItem (t : Int) (A : Option Addr) (n c : Nat) (ts : List Slot) (hf : fitL ts) (x : Int) {m : Bool} (hm : haveR t ts x = m) {r : Bool} (hr : haveC t ts x = r) (w : World) (hn : n ≤ 9223372036854775807) (h : Rd w A n 2 (ts.map Slot.cells)) :
    Calls Tryd.prog 23 #[.agg #[.int .i64 t, .slice A n c], .int .i64 x] w fun e w' => e = .returned (.tuple #[.bool m, .bool r]) ∧ Bw w w' := by
  have hl := Lib.hid h.slotlen
  have hbx : Bw w (w.alloc (.cells #[.int .i64 t, .slice A n c] 29)) := Bw.alloc (Bw.refl _) _
  subst hr hm
  cases hg : rwB t ts
  · have HR := Lib.hid (show haveR t ts x = false ∧ haveC t ts x = false by simp [haveR, haveC, hg])
    rw [HR.out.1, HR.out.2]
    go_enter Tryd.func23, Tryd.ntmps23
    go_wp2_with (go_at_call 49; refine (c_l10Good t _ _ _ ts hf hg _ hn (h.keep hbx)).mono ?_; rintro e w1 ⟨rfl, hb1⟩)
    go_ret2
    exact ⟨rfl, hbx.trans hb1⟩
  · obtain ⟨g1, g2, g3, g4⟩ := rwB_iff.1 hg
    have ⟨t0, t1⟩ := inR_iff.1 g1
    have Hg := Lib.hid hg
    clear g1 g2 g3 g4
    cases hx : inR x 0 65535
    · have HR := Lib.hid (show haveR t ts x = false ∧ haveC t ts x = false by simp [haveR, haveC, hx])
      clear hg
      rw [HR.out.1, HR.out.2]
      go_enter Tryd.func23, Tryd.ntmps23
      go_wp2_with (first | (go_at_call 49; refine (c_l10Good t _ _ _ ts hf Hg.out _ hn (h.keep hbx)).mono ?_; rintro e w1 ⟨rfl, hb1⟩) | (go_at_call 58; refine (c_l2Good _ hx _).mono ?_; rintro e w2 ⟨rfl, rfl⟩))
      go_ret2
      exact ⟨rfl, hbx.trans hb1⟩
    · have ⟨x0, x1⟩ := inR_iff.1 hx
      generalize hv : haveB t ts x = v
      have HR := Lib.hid (show haveR t ts x = v ∧ haveC t ts x = true by simp [haveR, haveC, hx, hg, hv])
      clear hg
      rw [HR.out.1, HR.out.2]
      go_enter Tryd.func23, Tryd.ntmps23
      go_wp2_with (first | (go_at_call 49; refine (c_l10Good t _ _ _ ts hf Hg.out _ hn (h.keep hbx)).mono ?_; rintro e w1 ⟨rfl, hb1⟩; have d0 := hb1.cellv (p := ⟨w.heap.size, 0, none⟩) (v := .int .i64 t) (by go_simp); have d1 := hb1.cellv (p := ⟨w.heap.size, 1, none⟩) (v := .slice A n c) (by go_simp)) | (go_at_call 58; refine (c_l2Good _ hx _).mono ?_; rintro e w2 ⟨rfl, rfl⟩) | (go_at_call 59; refine (c_l10Have t _ _ _ ts x t0 t1 x0 x1 hv _ hn (h.keep (hbx.trans hb1))).mono ?_; rintro e w2 ⟨rfl, hb2⟩))
      go_ret2
      exact ⟨rfl, (hbx.trans hb1).trans hb2⟩
set_option maxRecDepth 100000 in
theorem c_iHaveItem (t : Int) (A : Option Addr) (n c : Nat) (ts : List Slot) (hf : fitL ts) (x : Int) {m : Bool} (hm : haveR t ts x = m) {r : Bool} (hr : haveC t ts x = r) (w : World) (hn : n ≤ 9223372036854775807) (h : Rd w A n 2 (ts.map Slot.cells)) :
    Calls Tryd.prog 24 #[.agg #[.int .i64 t, .slice A n c], .int .i64 x] w fun e w' => e = .returned (.tuple #[.bool m, .bool r]) ∧ Bw w w' := by
  have hl := Lib.hid h.slotlen
  have hbx : Bw w (w.alloc (.cells #[.int .i64 t, .slice A n c] 29)) := Bw.alloc (Bw.refl _) _
  subst hr hm
  cases hg : rwB t ts
  · have HR := Lib.hid (show haveR t ts x = false ∧ haveC t ts x = false by simp [haveR, haveC, hg])
    rw [HR.out.1, HR.out.2]
    go_enter Tryd.func24, Tryd.ntmps24
    go_wp2_with (go_at_call 17; refine (c_IsValidReceiveWindow t _ _ _ ts hf hg _ hn (h.keep hbx)).mono ?_; rintro e w1 ⟨rfl, hb1⟩)
    go_ret2
    exact ⟨rfl, hbx.trans hb1⟩
  · obtain ⟨g1, g2, g3, g4⟩ := rwB_iff.1 hg
    have ⟨t0, t1⟩ := inR_iff.1 g1
    have Hg := Lib.hid hg
    clear g1 g2 g3 g4
    cases hx : inR x 0 65535
    · have HR := Lib.hid (show haveR t ts x = false ∧ haveC t ts x = false by simp [haveR, haveC, hx])
      clear hg
      rw [HR.out.1, HR.out.2]
      go_enter Tryd.func24, Tryd.ntmps24
      go_wp2_with (first | (go_at_call 17; refine (c_IsValidReceiveWindow t _ _ _ ts hf Hg.out _ hn (h.keep hbx)).mono ?_; rintro e w1 ⟨rfl, hb1⟩) | (go_at_call 51; refine (c_IsSerial _ hx _).mono ?_; rintro e w2 ⟨rfl, rfl⟩))
      go_ret2
      exact ⟨rfl, hbx.trans hb1⟩
    · have ⟨x0, x1⟩ := inR_iff.1 hx
      generalize hv : haveB t ts x = v
      have HR := Lib.hid (show haveR t ts x = v ∧ haveC t ts x = true by simp [haveR, haveC, hx, hg, hv])
      clear hg
      rw [HR.out.1, HR.out.2]
      go_enter Tryd.func24, Tryd.ntmps24
      go_wp2_with (first | (go_at_call 17; refine (c_IsValidReceiveWindow t _ _ _ ts hf Hg.out _ hn (h.keep hbx)).mono ?_; rintro e w1 ⟨rfl, hb1⟩; have d0 := hb1.cellv (p := ⟨w.heap.size, 0, none⟩) (v := .int .i64 t) (by go_simp); have d1 := hb1.cellv (p := ⟨w.heap.size, 1, none⟩) (v := .slice A n c) (by go_simp)) | (go_at_call 51; refine (c_IsSerial _ hx _).mono ?_; rintro e w2 ⟨rfl, rfl⟩) | (go_at_call 60; refine (c_haveItem t _ _ _ ts x t0 t1 x0 x1 hv _ hn (h.keep (hbx.trans hb1))).mono ?_; rintro e w2 ⟨rfl, hb2⟩))
      go_ret2
      exact ⟨rfl, (hbx.trans hb1).trans hb2⟩
end Go.Proofs.YtcemcgcbhmianaaDoor
