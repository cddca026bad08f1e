
/- Receivers: settled ones. -/
import Derived.Test.YtcemcgcbhmianaaDoorU3
namespace Go.Proofs.YtcemcgcbhmianaaDoor
open Go.RowKit
theorem c_sIsValidReceiver (st : Bool) (ck t : Int) (A : Option Addr) (n c : Nat) (ts : List Slot) (hf : fitL ts) (B : Option Addr) (m d : Nat) (rs : List Request) {r : Bool} (hr : rcB st ck t ts rs = r) (w : World) (hn : n ≤ 9223372036854775807) (hm : m ≤ 9223372036854775807) (h : Rd w A n 2 (ts.map Slot.cells)) (hh : Rd w B m 4 (rs.map Request.cells)) :
    Calls Tryd.prog 34 #[.agg #[.bool st, .int .i64 ck, .int .i64 t, .slice A n c, .slice B m d]] w fun e w' => e = .returned (.bool r) ∧ Bw w w' := by
  have hbx : Bw w (w.alloc (.cells #[.bool st, .int .i64 ck, .int .i64 t, .slice A n c, .slice B m d] 55)) := Bw.alloc (Bw.refl _) _
  go_enter Tryd.func34, Tryd.ntmps34
  go_wp2_with (go_at_call 69; refine (c_l13Good st ck t _ _ _ ts hf _ _ _ rs hr _ hn hm (h.keep hbx) (hh.keep hbx)).mono ?_; rintro e w1 ⟨rfl, hb1⟩)
  go_ret
  exact ⟨rfl, hbx.trans hb1⟩
def setR (st : Bool) (ck t : Int) (ts : List Slot) (rs : List Request) : Bool := rcB st ck t ts rs && (st && (decide (rs.length = 0) && decide (ts.length = 0)))
theorem c_isSettled (st : Bool) (ck t : Int) (A : Option Addr) (n c : Nat) (B : Option Addr) (m d : Nat) (w : World) (hn : n ≤ 9223372036854775807) (hm : m ≤ 9223372036854775807) :
    Calls Tryd.prog 77 #[.agg #[.bool st, .int .i64 ck, .int .i64 t, .slice A n c, .slice B m d]] w fun e w' => e = .returned (.bool (st && (((m : Int) == 0) && ((n : Int) == 0)))) ∧ Bw w w' := by
  cases g2 : ((n : Int) == 0)
  all_goals cases g3 : ((m : Int) == 0)
  all_goals cases st
  all_goals
    go_enter Tryd.func77, Tryd.ntmps77
    go_wp2
    go_ret
    exact ⟨rfl, by (repeat (first | with_reducible assumption | exact Bw.refl _ | (with_reducible refine Bw.setCell ?_ (by simp) _) | (with_reducible refine Bw.alloc ?_ _) | (with_reducible refine Bw.drew ?_) | (with_reducible refine Bw.drewN ?_ _)))⟩
set_option maxRecDepth 100000 in
theorem c_iIsSettled (st : Bool) (ck t : Int) (A : Option Addr) (n c : Nat) (ts : List Slot) (hf : fitL ts) (B : Option Addr) (m d : Nat) (rs : List Request) {v : Bool} (hv : setR st ck t ts rs = v) {r : Bool} (hr : rcB st ck t ts rs = r) (w : World) (hn : n ≤ 9223372036854775807) (hm : m ≤ 9223372036854775807) (h : Rd w A n 2 (ts.map Slot.cells)) (hh : Rd w B m 4 (rs.map Request.cells)) :
    Calls Tryd.prog 39 #[.agg #[.bool st, .int .i64 ck, .int .i64 t, .slice A n c, .slice B m d]] w fun e w' => e = .returned (.tuple #[.bool v, .bool r]) ∧ Bw w w' := by
  have hl := Lib.hid h.slotlen
  have hl2 := Lib.hid hh.requestlen
  have hbx : Bw w (w.alloc (.cells #[.bool st, .int .i64 ck, .int .i64 t, .slice A n c, .slice B m d] 55)) := Bw.alloc (Bw.refl _) _
  subst hv hr
  cases hg : rcB st ck t ts rs
  · have HR := Lib.hid (show setR st ck t ts rs = false by simp [setR, hg])
    rw [HR.out]
    go_enter Tryd.func39, Tryd.ntmps39
    go_wp2_with (go_at_call 36; refine (c_IsValidReceiver st ck t _ _ _ ts hf _ _ _ rs hg _ hn hm (h.keep hbx) (hh.keep hbx)).mono ?_; rintro e w1 ⟨rfl, hb1⟩)
    go_ret2
    exact ⟨rfl, hbx.trans hb1⟩
  · have Hg := Lib.hid hg
    have HR := Lib.hid (show setR st ck t ts rs = (st && (((m : Int) == 0) && ((n : Int) == 0))) by rw [Bool.eq_iff_iff]; simp [setR, hg, hl.out, hl2.out])
    rw [HR.out]
    clear hg
    go_enter Tryd.func39, Tryd.ntmps39
    go_wp2_with (first | (go_at_call 36; refine (c_IsValidReceiver st ck t _ _ _ ts hf _ _ _ rs Hg.out _ hn hm (h.keep hbx) (hh.keep hbx)).mono ?_; rintro e w1 ⟨rfl, hb1⟩; have d0 := hb1.cellv (p := ⟨w.heap.size, 0, none⟩) (v := .bool st) (by go_simp); have d1 := hb1.cellv (p := ⟨w.heap.size, 1, none⟩) (v := .int .i64 ck) (by go_simp); have d2 := hb1.cellv (p := ⟨w.heap.size, 2, none⟩) (v := .int .i64 t) (by go_simp); have d3 := hb1.cellv (p := ⟨w.heap.size, 3, none⟩) (v := .slice A n c) (by go_simp); have d4 := hb1.cellv (p := ⟨w.heap.size, 4, none⟩) (v := .slice B m d) (by go_simp)) | (go_at_call 77; refine (c_isSettled st ck t _ _ _ _ _ _ _ hn hm).mono ?_; rintro e w2 ⟨rfl, hb2⟩))
    go_ret2
    exact ⟨rfl, (hbx.trans hb1).trans hb2⟩
set_option maxRecDepth 100000 in
theorem c_sIsSettled (st : Bool) (ck t : Int) (A : Option Addr) (n c : Nat) (ts : List Slot) (hf : fitL ts) (B : Option Addr) (m d : Nat) (rs : List Request) {v : Bool} (hv : setR st ck t ts rs = v) {r : Bool} (hr : rcB st ck t ts rs = r) (w : World) (hn : n ≤ 9223372036854775807) (hm : m ≤ 9223372036854775807) (h : Rd w A n 2 (ts.map Slot.cells)) (hh : Rd w B m 4 (rs.map Request.cells)) :
    Calls Tryd.prog 38 #[.agg #[.bool st, .int .i64 ck, .int .i64 t, .slice A n c, .slice B m d]] w fun e w' => e = .returned (.tuple #[.bool v, .bool r]) ∧ Bw w w' := by
  have hl := Lib.hid h.slotlen
  have hl2 := Lib.hid hh.requestlen
  have hbx : Bw w (w.alloc (.cells #[.bool st, .int .i64 ck, .int .i64 t, .slice A n c, .slice B m d] 55)) := Bw.alloc (Bw.refl _) _
  subst hv hr
  cases hg : rcB st ck t ts rs
  · have HR := Lib.hid (show setR st ck t ts rs = false by simp [setR, hg])
    rw [HR.out]
    go_enter Tryd.func38, Tryd.ntmps38
    go_wp2_with (go_at_call 69; refine (c_l13Good st ck t _ _ _ ts hf _ _ _ rs hg _ hn hm (h.keep hbx) (hh.keep hbx)).mono ?_; rintro e w1 ⟨rfl, hb1⟩)
    go_ret2
    exact ⟨rfl, hbx.trans hb1⟩
  · have Hg := Lib.hid hg
    have HR := Lib.hid (show setR st ck t ts rs = (st && (((m : Int) == 0) && ((n : Int) == 0))) by rw [Bool.eq_iff_iff]; simp [setR, hg, hl.out, hl2.out])
    rw [HR.out]
    clear hg
    cases g2 : ((n : Int) == 0)
    all_goals cases g3 : ((m : Int) == 0)
    all_goals cases st
    all_goals
      go_enter Tryd.func38, Tryd.ntmps38
      go_wp2_with (go_at_call 69; refine (c_l13Good _ ck t _ _ _ ts hf _ _ _ rs Hg.out _ hn hm (h.keep hbx) (hh.keep hbx)).mono ?_; rintro e w1 ⟨rfl, hb1⟩; have d0 := hb1.cellv (p := ⟨w.heap.size, 0, none⟩) (v := .bool _) (by go_simp; rfl); have d1 := hb1.cellv (p := ⟨w.heap.size, 1, none⟩) (v := .int .i64 ck) (by go_simp); have d2 := hb1.cellv (p := ⟨w.heap.size, 2, none⟩) (v := .int .i64 t) (by go_simp); have d3 := hb1.cellv (p := ⟨w.heap.size, 3, none⟩) (v := .slice A n c) (by go_simp); have d4 := hb1.cellv (p := ⟨w.heap.size, 4, none⟩) (v := .slice B m d) (by go_simp))
      go_ret2
      exact ⟨rfl, hbx.trans hb1⟩
end Go.Proofs.YtcemcgcbhmianaaDoor
