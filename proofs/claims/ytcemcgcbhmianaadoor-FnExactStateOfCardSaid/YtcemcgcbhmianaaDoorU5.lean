
/- Receivers: the state of the request for a serial. -/
import Derived.Test.YtcemcgcbhmianaaDoorU4
import Derived.Test.YtcemcgcbhmianaaDoorR8
namespace Go.Proofs.YtcemcgcbhmianaaDoor
open Go.RowKit
def stC (st : Bool) (ck t : Int) (ts : List Slot) (rs : List Request) (x : Int) : Bool := rcB st ck t ts rs && (st && inR x 0 65535)
/-- Whether the request is there, at its place. -/
def atR (t : Int) (rs : List Request) (x : Int) : Bool := decide (posR rs t x < rs.length) && decide ((requestAt rs (posR rs t x)).number = x)
def stR (st : Bool) (ck t : Int) (ts : List Slot) (rs : List Request) (x : Int) : Int := if stC st ck t ts rs x = true then (if haveB t ts x = true then 4 else if atR t rs x = true then (requestAt rs (posR rs t x)).state else 0) else 0
/-- A request that is there waits for an item that is not there: so the two orders of asking come to one. -/
theorem at_not {ck t : Int} {ts : List Slot} {rs : List Request} (h : rcB true ck t ts rs = true) {x : Int} (ha : atR t rs x = true) : haveB t ts x = false := by
  simp only [rcB, if_true, Bool.and_eq_true, Bool.not_eq_true'] at h
  obtain ⟨_, hw, hg, hn⟩ := h
  simp only [atR, Bool.and_eq_true, decide_eq_true_eq] at ha
  obtain ⟨hp, he⟩ := ha
  have ⟨t0, t1⟩ := goodR_base hg
  have hb := goodR_bd hg hp
  have h1 := have_has t0 t1 hb.1.1 hb.1.2 hb.2.1 ts
  rw [he] at h1
  rw [h1]
  cases hx : hasB t ts x
  · rfl
  · have := anyW_yes (t := t) (ts := ts) hp (by rw [he]; exact hx)
    rw [this] at hn; cases hn
set_option maxRecDepth 100000 in
set_option maxHeartbeats 1000000 in
theorem c_iStateOf (st : Bool) (ck t : Int) (A : Option Addr) (n c : Nat) (ts : List Slot) (hf : fitL ts) (B : Option Addr) (m d : Nat) (rs : List Request) (x : Int) {v : Int} (hv : stR st ck t ts rs x = v) {r : Bool} (hr : stC st ck t ts rs x = r) (w : World) (hn : n ≤ 9223372036854775807) (hm : m ≤ 9223372036854775807) (h : Rd w A n 2 (ts.map Slot.cells)) (hh : Rd w B m 4 (rs.map Request.cells)) :
    Calls Tryd.prog 41 #[.agg #[.bool st, .int .i64 ck, .int .i64 t, .slice A n c, .slice B m d], .int .i64 x] w fun e w' => e = .returned (.tuple #[.int .i64 v, .bool r]) ∧ Bw w w' := by
  have hl2 := Lib.hid hh.requestlen
  have hbx : Bw w (w.alloc (.cells #[.bool st, .int .i64 ck, .int .i64 t, .slice A n c, .slice B m d] 55)) := Bw.alloc (Bw.refl _) _
  subst hv hr
  cases hg : rcB st ck t ts rs
  · have HR := Lib.hid (show stR st ck t ts rs x = 0 ∧ stC st ck t ts rs x = false by simp [stR, stC, hg])
    rw [HR.out.1, HR.out.2]
    go_enter Tryd.func41, Tryd.ntmps41
    go_wp2_with (go_at_call 36; refine (c_IsValidReceiver st ck t _ _ _ ts hf _ _ _ rs hg _ hn hm (h.keep hbx) (hh.keep hbx)).mono ?_; rintro e w1 ⟨rfl, hb1⟩)
    go_ret2
    exact ⟨rfl, hbx.trans hb1⟩
  · have Hg := Lib.hid hg
    cases hx : inR x 0 65535
    · have HR := Lib.hid (show stR st ck t ts rs x = 0 ∧ stC st ck t ts rs x = false by simp [stR, stC, hx])
      rw [HR.out.1, HR.out.2]
      clear hg
      cases st
      all_goals
        go_enter Tryd.func41, Tryd.ntmps41
        go_wp2_with (first | (go_at_call 36; refine (c_IsValidReceiver _ ck t _ _ _ ts hf _ _ _ rs Hg.out _ hn hm (h.keep hbx) (hh.keep hbx)).mono ?_; rintro e w1 ⟨rfl, hb1⟩; have d0 := hb1.cellv (p := ⟨w.heap.size, 0, none⟩) (v := .bool _) (by go_simp; rfl); have d1 := hb1.cellv (p := ⟨w.heap.size, 1, none⟩) (v := .int .i64 ck) (by go_simp); have d2 := hb1.cellv (p := ⟨w.heap.size, 2, none⟩) (v := .int .i64 t) (by go_simp); have d3 := hb1.cellv (p := ⟨w.heap.size, 3, none⟩) (v := .slice A n c) (by go_simp); have d4 := hb1.cellv (p := ⟨w.heap.size, 4, none⟩) (v := .slice B m d) (by go_simp)) | (go_at_call 51; refine (c_IsSerial _ hx _).mono ?_; rintro e w2 ⟨rfl, rfl⟩))
        go_ret2
        exact ⟨rfl, hbx.trans hb1⟩
    · have ⟨x0, x1⟩ := inR_iff.1 hx
      cases st
      · have HR := Lib.hid (show stR false ck t ts rs x = 0 ∧ stC false ck t ts rs x = false by simp [stR, stC])
        rw [HR.out.1, HR.out.2]
        clear hg
        go_enter Tryd.func41, Tryd.ntmps41
        go_wp2_with (first | (go_at_call 36; refine (c_IsValidReceiver false ck t _ _ _ ts hf _ _ _ rs Hg.out _ hn hm (h.keep hbx) (hh.keep hbx)).mono ?_; rintro e w1 ⟨rfl, hb1⟩; have d0 := hb1.cellv (p := ⟨w.heap.size, 0, none⟩) (v := .bool false) (by go_simp); have d1 := hb1.cellv (p := ⟨w.heap.size, 1, none⟩) (v := .int .i64 ck) (by go_simp); have d2 := hb1.cellv (p := ⟨w.heap.size, 2, none⟩) (v := .int .i64 t) (by go_simp); have d3 := hb1.cellv (p := ⟨w.heap.size, 3, none⟩) (v := .slice A n c) (by go_simp); have d4 := hb1.cellv (p := ⟨w.heap.size, 4, none⟩) (v := .slice B m d) (by go_simp)) | (go_at_call 51; refine (c_IsSerial _ hx _).mono ?_; rintro e w2 ⟨rfl, rfl⟩))
        go_ret2
        exact ⟨rfl, hbx.trans hb1⟩
      · have hgg : goodR rs t = true := by
          simp only [rcB, if_true, Bool.and_eq_true] at hg
          exact hg.2.2.1
        have HG := Lib.hid hgg
        have HOK := Lib.hid (show ∀ j, j < rs.length → 0 ≤ (requestAt rs j).number ∧ (requestAt rs j).number ≤ 65535 from fun j hj => (goodR_bd hgg hj).1)
        have ⟨t0, t1⟩ := goodR_base hgg
        have hm8 : m ≤ 8 := by have := (goodR_iff.1 hgg).2.1; rw [hl2.out] at this; exact this
        have HC := Lib.hid (show stC true ck t ts rs x = true by simp [stC, hg, hx])
        generalize hp : posR rs t x = p
        have HP := Lib.hid hp
        cases ha : atR t rs x
        · have HA := Lib.hid (show (decide (p < m) && decide ((requestAt rs p).number = x)) = false by rw [← hl2.out, ← hp]; exact ha)
          cases hv : haveB t ts x
          · have HV := Lib.hid hv
            have HR := Lib.hid (show stR true ck t ts rs x = 0 by simp [stR, HC.out, hv, ha])
            rw [HR.out, HC.out]
            clear hg hgg hp ha hv HR
            go_enter Tryd.func41, Tryd.ntmps41
            go_wp2_with (first | (go_at_call 36; refine (c_IsValidReceiver true ck t _ _ _ ts hf _ _ _ rs Hg.out _ hn hm (h.keep hbx) (hh.keep hbx)).mono ?_; rintro e w1 ⟨rfl, hb1⟩; have d0 := hb1.cellv (p := ⟨w.heap.size, 0, none⟩) (v := .bool true) (by go_simp); have d1 := hb1.cellv (p := ⟨w.heap.size, 1, none⟩) (v := .int .i64 ck) (by go_simp); have d2 := hb1.cellv (p := ⟨w.heap.size, 2, none⟩) (v := .int .i64 t) (by go_simp); have d3 := hb1.cellv (p := ⟨w.heap.size, 3, none⟩) (v := .slice A n c) (by go_simp); have d4 := hb1.cellv (p := ⟨w.heap.size, 4, none⟩) (v := .slice B m d) (by go_simp)) | (go_at_call 51; refine (c_IsSerial _ hx _).mono ?_; rintro e w2 ⟨rfl, rfl⟩) | (go_at_call 79; refine (c_findRequest _ _ _ rs t x HG.out x0 x1 HP.out HA.out _ (hh.keep (hbx.trans hb1))).mono ?_; rintro e w3 ⟨rfl, hb3⟩; have e0 := hb3.cellv d0; have e1 := hb3.cellv d1; have e2 := hb3.cellv d2; have e3 := hb3.cellv d3; have e4 := hb3.cellv d4; clear d0 d1 d2 d3 d4) | (go_at_call 60; refine (c_haveItem t _ _ _ ts x t0 t1 x0 x1 HV.out _ hn (h.keep ((hbx.trans hb1).trans hb3))).mono ?_; rintro e w4 ⟨rfl, hb4⟩))
            go_ret2
            exact ⟨rfl, ((hbx.trans hb1).trans hb3).trans hb4⟩
          · have HV := Lib.hid hv
            have HR := Lib.hid (show stR true ck t ts rs x = 4 by simp [stR, HC.out, hv, ha])
            rw [HR.out, HC.out]
            clear hg hgg hp ha hv HR
            go_enter Tryd.func41, Tryd.ntmps41
            go_wp2_with (first | (go_at_call 36; refine (c_IsValidReceiver true ck t _ _ _ ts hf _ _ _ rs Hg.out _ hn hm (h.keep hbx) (hh.keep hbx)).mono ?_; rintro e w1 ⟨rfl, hb1⟩; have d0 := hb1.cellv (p := ⟨w.heap.size, 0, none⟩) (v := .bool true) (by go_simp); have d1 := hb1.cellv (p := ⟨w.heap.size, 1, none⟩) (v := .int .i64 ck) (by go_simp); have d2 := hb1.cellv (p := ⟨w.heap.size, 2, none⟩) (v := .int .i64 t) (by go_simp); have d3 := hb1.cellv (p := ⟨w.heap.size, 3, none⟩) (v := .slice A n c) (by go_simp); have d4 := hb1.cellv (p := ⟨w.heap.size, 4, none⟩) (v := .slice B m d) (by go_simp)) | (go_at_call 51; refine (c_IsSerial _ hx _).mono ?_; rintro e w2 ⟨rfl, rfl⟩) | (go_at_call 79; refine (c_findRequest _ _ _ rs t x HG.out x0 x1 HP.out HA.out _ (hh.keep (hbx.trans hb1))).mono ?_; rintro e w3 ⟨rfl, hb3⟩; have e0 := hb3.cellv d0; have e1 := hb3.cellv d1; have e2 := hb3.cellv d2; have e3 := hb3.cellv d3; have e4 := hb3.cellv d4; clear d0 d1 d2 d3 d4) | (go_at_call 60; refine (c_haveItem t _ _ _ ts x t0 t1 x0 x1 HV.out _ hn (h.keep ((hbx.trans hb1).trans hb3))).mono ?_; rintro e w4 ⟨rfl, hb4⟩))
            go_ret2
            exact ⟨rfl, ((hbx.trans hb1).trans hb3).trans hb4⟩
        · have HA := Lib.hid (show (decide (p < m) && decide ((requestAt rs p).number = x)) = true by rw [← hl2.out, ← hp]; exact ha)
          have hpm : p < m := by have := HA.out; simp only [Bool.and_eq_true, decide_eq_true_eq] at this; exact this.1
          have HV := Lib.hid (at_not hg ha)
          have HR := Lib.hid (show stR true ck t ts rs x = (requestAt rs p).state by simp [stR, HC.out, HV.out, ha, hp])
          rw [HR.out, HC.out]
          obtain ⟨b, off, rfl, hb, hc⟩ := hh.request (by omega)
          have q1 := (hc p hpm).2.1
          clear hg hgg hp ha hc
          go_enter Tryd.func41, Tryd.ntmps41
          go_wp2_with (first | (go_at_call 36; refine (c_IsValidReceiver true ck t _ _ _ ts hf _ _ _ rs Hg.out _ hn hm (h.keep hbx) (hh.keep hbx)).mono ?_; rintro e w1 ⟨rfl, hb1⟩; have d0 := hb1.cellv (p := ⟨w.heap.size, 0, none⟩) (v := .bool true) (by go_simp); have d1 := hb1.cellv (p := ⟨w.heap.size, 1, none⟩) (v := .int .i64 ck) (by go_simp); have d2 := hb1.cellv (p := ⟨w.heap.size, 2, none⟩) (v := .int .i64 t) (by go_simp); have d3 := hb1.cellv (p := ⟨w.heap.size, 3, none⟩) (v := .slice A n c) (by go_simp); have d4 := hb1.cellv (p := ⟨w.heap.size, 4, none⟩) (v := .slice (some ⟨b, off, none⟩) m d) (by go_simp)) | (go_at_call 51; refine (c_IsSerial _ hx _).mono ?_; rintro e w2 ⟨rfl, rfl⟩) | (go_at_call 79; refine (c_findRequest _ _ _ rs t x HG.out x0 x1 HP.out HA.out _ (hh.keep (hbx.trans hb1))).mono ?_; rintro e w3 ⟨rfl, hb3⟩; have e0 := hb3.cellv d0; have e1 := hb3.cellv d1; have e2 := hb3.cellv d2; have e3 := hb3.cellv d3; have e4 := hb3.cellv d4; clear d0 d1 d2 d3 d4; have q3 := ((hbx.trans hb1).trans hb3).cellv q1; clear q1))
          go_ret2
          exact ⟨rfl, (hbx.trans hb1).trans hb3⟩
set_option maxRecDepth 100000 in
set_option maxHeartbeats 1000000 in
theorem c_sStateOf (st : Bool) (ck t : Int) (A : Option Addr) (n c : Nat) (ts : List Slot) (hf : fitL ts) (B : Option Addr) (m d : Nat) (rs : List Request) (x : Int) {v : Int} (hv : stR st ck t ts rs x = v) {r : Bool} (hr : stC st ck t ts rs x = r) (w : World) (hn : n ≤ 9223372036854775807) (hm : m ≤ 9223372036854775807) (h : Rd w A n 2 (ts.map Slot.cells)) (hh : Rd w B m 4 (rs.map Request.cells)) :
    Calls Tryd.prog 40 #[.agg #[.bool st, .int .i64 ck, .int .i64 t, .slice A n c, .slice B m d], .int .i64 x] w fun e w' => e = .returned (.tuple #[.int .i64 v, .bool r]) ∧ Bw w w' := by
  have hl2 := Lib.hid hh.requestlen
  have hbx : Bw w (w.alloc (.cells #[.bool st, .int .i64 ck, .int .i64 t, .slice A n c, .slice B m d] 55)) := Bw.alloc (Bw.refl _) _
  subst hv hr
  cases hg : rcB st ck t ts rs
  · have HR := Lib.hid (show stR st ck t ts rs x = 0 ∧ stC st ck t ts rs x = false by simp [stR, stC, hg])
    rw [HR.out.1, HR.out.2]
    go_enter Tryd.func40, Tryd.ntmps40
    go_wp2_with (go_at_call 69; refine (c_l13Good st ck t _ _ _ ts hf _ _ _ rs hg _ hn hm (h.keep hbx) (hh.keep hbx)).mono ?_; rintro e w1 ⟨rfl, hb1⟩)
    go_ret2
    exact ⟨rfl, hbx.trans hb1⟩
  · have Hg := Lib.hid hg
    cases hx : inR x 0 65535
    · have HR := Lib.hid (show stR st ck t ts rs x = 0 ∧ stC st ck t ts rs x = false by simp [stR, stC, hx])
      rw [HR.out.1, HR.out.2]
      clear hg
      cases st
      all_goals
        go_enter Tryd.func40, Tryd.ntmps40
        go_wp2_with (first | (go_at_call 69; refine (c_l13Good _ ck t _ _ _ ts hf _ _ _ rs Hg.out _ hn hm (h.keep hbx) (hh.keep hbx)).mono ?_; rintro e w1 ⟨rfl, hb1⟩; have d0 := hb1.cellv (p := ⟨w.heap.size, 0, none⟩) (v := .bool _) (by go_simp; rfl); have d1 := hb1.cellv (p := ⟨w.heap.size, 1, none⟩) (v := .int .i64 ck) (by go_simp); have d2 := hb1.cellv (p := ⟨w.heap.size, 2, none⟩) (v := .int .i64 t) (by go_simp); have d3 := hb1.cellv (p := ⟨w.heap.size, 3, none⟩) (v := .slice A n c) (by go_simp); have d4 := hb1.cellv (p := ⟨w.heap.size, 4, none⟩) (v := .slice B m d) (by go_simp)) | (go_at_call 58; refine (c_l2Good _ hx _).mono ?_; rintro e w2 ⟨rfl, rfl⟩))
        go_ret2
        exact ⟨rfl, hbx.trans hb1⟩
    · have ⟨x0, x1⟩ := inR_iff.1 hx
      cases st
      · have HR := Lib.hid (show stR false ck t ts rs x = 0 ∧ stC false ck t ts rs x = false by simp [stR, stC])
        rw [HR.out.1, HR.out.2]
        clear hg
        go_enter Tryd.func40, Tryd.ntmps40
        go_wp2_with (first | (go_at_call 69; refine (c_l13Good false ck t _ _ _ ts hf _ _ _ rs Hg.out _ hn hm (h.keep hbx) (hh.keep hbx)).mono ?_; rintro e w1 ⟨rfl, hb1⟩; have d0 := hb1.cellv (p := ⟨w.heap.size, 0, none⟩) (v := .bool false) (by go_simp); have d1 := hb1.cellv (p := ⟨w.heap.size, 1, none⟩) (v := .int .i64 ck) (by go_simp); have d2 := hb1.cellv (p := ⟨w.heap.size, 2, none⟩) (v := .int .i64 t) (by go_simp); have d3 := hb1.cellv (p := ⟨w.heap.size, 3, none⟩) (v := .slice A n c) (by go_simp); have d4 := hb1.cellv (p := ⟨w.heap.size, 4, none⟩) (v := .slice B m d) (by go_simp)) | (go_at_call 58; refine (c_l2Good _ hx _).mono ?_; rintro e w2 ⟨rfl, rfl⟩))
        go_ret2
        exact ⟨rfl, hbx.trans hb1⟩
      · have hgg : goodR rs t = true := by
          simp only [rcB, if_true, Bool.and_eq_true] at hg
          exact hg.2.2.1
        have HG := Lib.hid hgg
        have HOK := Lib.hid (show ∀ j, j < rs.length → 0 ≤ (requestAt rs j).number ∧ (requestAt rs j).number ≤ 65535 from fun j hj => (goodR_bd hgg hj).1)
        have ⟨t0, t1⟩ := goodR_base hgg
        have hm8 : m ≤ 8 := by have := (goodR_iff.1 hgg).2.1; rw [hl2.out] at this; exact this
        have HC := Lib.hid (show stC true ck t ts rs x = true by simp [stC, hg, hx])
        generalize hp : posR rs t x = p
        have HP := Lib.hid hp
        cases ha : atR t rs x
        · have HA := Lib.hid (show (decide (p < m) && decide ((requestAt rs p).number = x)) = false by rw [← hl2.out, ← hp]; exact ha)
          cases hv : haveB t ts x
          · have HV := Lib.hid hv
            have HR := Lib.hid (show stR true ck t ts rs x = 0 by simp [stR, HC.out, hv, ha])
            rw [HR.out, HC.out]
            clear hg hgg hp ha hv HR
            go_enter Tryd.func40, Tryd.ntmps40
            go_wp2_with (first | (go_at_call 69; refine (c_l13Good true ck t _ _ _ ts hf _ _ _ rs Hg.out _ hn hm (h.keep hbx) (hh.keep hbx)).mono ?_; rintro e w1 ⟨rfl, hb1⟩; have d0 := hb1.cellv (p := ⟨w.heap.size, 0, none⟩) (v := .bool true) (by go_simp); have d1 := hb1.cellv (p := ⟨w.heap.size, 1, none⟩) (v := .int .i64 ck) (by go_simp); have d2 := hb1.cellv (p := ⟨w.heap.size, 2, none⟩) (v := .int .i64 t) (by go_simp); have d3 := hb1.cellv (p := ⟨w.heap.size, 3, none⟩) (v := .slice A n c) (by go_simp); have d4 := hb1.cellv (p := ⟨w.heap.size, 4, none⟩) (v := .slice B m d) (by go_simp)) | (go_at_call 58; refine (c_l2Good _ hx _).mono ?_; rintro e w2 ⟨rfl, rfl⟩) | (go_at_call 59; refine (c_l10Have t _ _ _ ts x t0 t1 x0 x1 HV.out _ hn (h.keep (hbx.trans hb1))).mono ?_; rintro e w4 ⟨rfl, hb4⟩; have e0 := hb4.cellv d0; have e1 := hb4.cellv d1; have e2 := hb4.cellv d2; have e3 := hb4.cellv d3; have e4 := hb4.cellv d4; clear d0 d1 d2 d3 d4) | (go_at_call 78; refine (c_l12Place _ _ _ rs t x HOK.out t0 t1 x0 x1 HP.out HA.out _ (by omega) (hh.keep ((hbx.trans hb1).trans hb4))).mono ?_; rintro e w3 ⟨rfl, hb3⟩; have k3 := ((hbx.trans hb1).trans hb4).trans hb3))
            go_ret2
            exact ⟨rfl, (((hbx.trans hb1).trans hb4).trans hb3)⟩
          · have HV := Lib.hid hv
            have HR := Lib.hid (show stR true ck t ts rs x = 4 by simp [stR, HC.out, hv, ha])
            rw [HR.out, HC.out]
            clear hg hgg hp ha hv HR
            go_enter Tryd.func40, Tryd.ntmps40
            go_wp2_with (first | (go_at_call 69; refine (c_l13Good true ck t _ _ _ ts hf _ _ _ rs Hg.out _ hn hm (h.keep hbx) (hh.keep hbx)).mono ?_; rintro e w1 ⟨rfl, hb1⟩; have d0 := hb1.cellv (p := ⟨w.heap.size, 0, none⟩) (v := .bool true) (by go_simp); have d1 := hb1.cellv (p := ⟨w.heap.size, 1, none⟩) (v := .int .i64 ck) (by go_simp); have d2 := hb1.cellv (p := ⟨w.heap.size, 2, none⟩) (v := .int .i64 t) (by go_simp); have d3 := hb1.cellv (p := ⟨w.heap.size, 3, none⟩) (v := .slice A n c) (by go_simp); have d4 := hb1.cellv (p := ⟨w.heap.size, 4, none⟩) (v := .slice B m d) (by go_simp)) | (go_at_call 58; refine (c_l2Good _ hx _).mono ?_; rintro e w2 ⟨rfl, rfl⟩) | (go_at_call 59; refine (c_l10Have t _ _ _ ts x t0 t1 x0 x1 HV.out _ hn (h.keep (hbx.trans hb1))).mono ?_; rintro e w4 ⟨rfl, hb4⟩; have e0 := hb4.cellv d0; have e1 := hb4.cellv d1; have e2 := hb4.cellv d2; have e3 := hb4.cellv d3; have e4 := hb4.cellv d4; clear d0 d1 d2 d3 d4) | (go_at_call 78; refine (c_l12Place _ _ _ rs t x HOK.out t0 t1 x0 x1 HP.out HA.out _ (by omega) (hh.keep ((hbx.trans hb1).trans hb4))).mono ?_; rintro e w3 ⟨rfl, hb3⟩; have k3 := ((hbx.trans hb1).trans hb4).trans hb3))
            go_ret2
            exact ⟨rfl, ((hbx.trans hb1).trans hb4)⟩
        · have HA := Lib.hid (show (decide (p < m) && decide ((requestAt rs p).number = x)) = true by rw [← hl2.out, ← hp]; exact ha)
          have hpm : p < m := by have := HA.out; simp only [Bool.and_eq_true, decide_eq_true_eq] at this; exact this.1
          have HV := Lib.hid (at_not hg ha)
          have HR := Lib.hid (show stR true ck t ts rs x = (requestAt rs p).state by simp [stR, HC.out, HV.out, ha, hp])
          rw [HR.out, HC.out]
          obtain ⟨b, off, rfl, hb, hc⟩ := hh.request (by omega)
          have q1 := (hc p hpm).2.1
          clear hg hgg hp ha hc
          go_enter Tryd.func40, Tryd.ntmps40
          go_wp2_with (first | (go_at_call 69; refine (c_l13Good true ck t _ _ _ ts hf _ _ _ rs Hg.out _ hn hm (h.keep hbx) (hh.keep hbx)).mono ?_; rintro e w1 ⟨rfl, hb1⟩; have d0 := hb1.cellv (p := ⟨w.heap.size, 0, none⟩) (v := .bool true) (by go_simp); have d1 := hb1.cellv (p := ⟨w.heap.size, 1, none⟩) (v := .int .i64 ck) (by go_simp); have d2 := hb1.cellv (p := ⟨w.heap.size, 2, none⟩) (v := .int .i64 t) (by go_simp); have d3 := hb1.cellv (p := ⟨w.heap.size, 3, none⟩) (v := .slice A n c) (by go_simp); have d4 := hb1.cellv (p := ⟨w.heap.size, 4, none⟩) (v := .slice (some ⟨b, off, none⟩) m d) (by go_simp)) | (go_at_call 58; refine (c_l2Good _ hx _).mono ?_; rintro e w2 ⟨rfl, rfl⟩) | (go_at_call 59; refine (c_l10Have t _ _ _ ts x t0 t1 x0 x1 HV.out _ hn (h.keep (hbx.trans hb1))).mono ?_; rintro e w4 ⟨rfl, hb4⟩; have e0 := hb4.cellv d0; have e1 := hb4.cellv d1; have e2 := hb4.cellv d2; have e3 := hb4.cellv d3; have e4 := hb4.cellv d4; clear d0 d1 d2 d3 d4) | (go_at_call 78; refine (c_l12Place _ _ _ rs t x HOK.out t0 t1 x0 x1 HP.out HA.out _ (by omega) (hh.keep ((hbx.trans hb1).trans hb4))).mono ?_; rintro e w3 ⟨rfl, hb3⟩; have f0 := hb3.cellv e0; have f1 := hb3.cellv e1; have f2 := hb3.cellv e2; have f3 := hb3.cellv e3; have f4 := hb3.cellv e4; clear e0 e1 e2 e3 e4; have q3 := (((hbx.trans hb1).trans hb4).trans hb3).cellv q1; clear q1))
          go_ret2
          exact ⟨rfl, ((hbx.trans hb1).trans hb4).trans hb3⟩
end Go.Proofs.YtcemcgcbhmianaaDoor
