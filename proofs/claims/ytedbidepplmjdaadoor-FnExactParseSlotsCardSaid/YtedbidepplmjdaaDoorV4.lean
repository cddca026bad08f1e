
/- Receive windows: valid ones. -/
import Derived.Test.YtedbidepplmjdaaDoorV3
namespace Go.Proofs.YtedbidepplmjdaaDoor
open Go.RowKit
set_option maxRecDepth 100000 in
theorem c_IsValidReceiveWindow (t : Int) (A : Option Addr) (n c : Nat) (ts : List Slot) (hf : fitL ts) {r : Bool} (hr : rwB t ts = r) (w : World) (hm : n ≤ 9223372036854775807) (h : Rd w A n 2 (ts.map Slot.cells)) :
    Calls Tryd.prog 18 #[.agg #[.int .i64 t, .slice A n c]] w fun e w' => e = .returned (.bool r) ∧ Bw w w' := by
  subst hr
  have hl := Lib.hid h.slotlen
  have hbx : Bw w (w.alloc (.cells #[.int .i64 t, .slice A n c] 30)) := Bw.alloc (Bw.refl _) _
  cases h1 : inR t 0 65535
  · go_enter Tryd.func18, Tryd.ntmps18
    go_wp2_with (go_at_call 33; refine (c_IsSerial _ h1 _).mono ?_; rintro e w1 ⟨rfl, rfl⟩)
    go_ret
    exact ⟨ret_bool (by simp [rwB, h1]), hbx⟩
  · by_cases h3 : n ≤ 8
    · cases h4 : slotsB ts
      · go_enter Tryd.func18, Tryd.ntmps18
        go_wp2_with (first | (go_at_call 33; refine (c_IsSerial _ h1 _).mono ?_; rintro e w1 ⟨rfl, rfl⟩) | (go_at_call 34; refine (c_ContainsFuncSlots _ _ _ ts hf h4 _ hm (h.keep hbx)).mono ?_; rintro e w1 ⟨rfl, hb1⟩))
        go_ret
        exact ⟨ret_bool (by simp [rwB, h4]), hbx.trans hb1⟩
      · have H4 := Lib.hid h4
        rcases Nat.eq_zero_or_pos n with rfl | hpos
        · have HE := Lib.hid (show rwB t ts = true by simp [rwB, h1, hl.out, h4, edgeB])
          clear h4
          go_enter Tryd.func18, Tryd.ntmps18
          go_wp2_with (first | (go_at_call 33; refine (c_IsSerial _ h1 _).mono ?_; rintro e w1 ⟨rfl, rfl⟩) | (go_at_call 34; refine (c_ContainsFuncSlots _ _ _ ts hf H4.out _ hm (h.keep hbx)).mono ?_; rintro e w1 ⟨rfl, hb1⟩; have d0 := hb1.cellv (p := ⟨w.heap.size, 0, none⟩) (v := .int .i64 t) (by go_simp); have d1 := hb1.cellv (p := ⟨w.heap.size, 1, none⟩) (v := .slice A 0 c) (by go_simp)))
          go_ret
          exact ⟨ret_bool HE.out.symm, hbx.trans hb1⟩
        · obtain ⟨p, rfl⟩ : ∃ p, n = p + 1 := ⟨n - 1, by omega⟩
          obtain ⟨b, off, rfl, hb, hc⟩ := h.slots hpos
          have q0 := (hc 0 (by omega)).1
          simp only [Nat.zero_mul, Nat.add_zero] at q0
          have q1 := (hc p (by omega)).1
          clear hc
          have HE := Lib.hid (show rwB t ts = (!(slotAt ts 0).have_ && (slotAt ts p).have_) by
            simp only [rwB, h1, hl.out, h4, edgeB, Bool.true_and]
            rw [decide_eq_true h3, Bool.true_and]
            simp)
          clear h4
          generalize (slotAt ts 0).have_ = a0 at *
          generalize (slotAt ts p).have_ = ap at *
          rw [HE.out]
          cases a0
          all_goals cases ap
          all_goals
            go_enter Tryd.func18, Tryd.ntmps18
            go_wp2_with (first | (go_at_call 33; refine (c_IsSerial _ h1 _).mono ?_; rintro e w1 ⟨rfl, rfl⟩) | (go_at_call 34; refine (c_ContainsFuncSlots _ _ _ ts hf H4.out _ hm (h.keep hbx)).mono ?_; rintro e w1 ⟨rfl, hb1⟩; have d0 := hb1.cellv (p := ⟨w.heap.size, 0, none⟩) (v := .int .i64 t) (by go_simp); have d1 := hb1.cellv (p := ⟨w.heap.size, 1, none⟩) (v := .slice (some ⟨b, off, none⟩) (p + 1) c) (by go_simp); have q01 := (hbx.trans hb1).cellv q0; have q11 := (hbx.trans hb1).cellv q1))
            go_ret
            exact ⟨rfl, hbx.trans hb1⟩
    · go_enter Tryd.func18, Tryd.ntmps18
      go_wp2_with (go_at_call 33; refine (c_IsSerial _ h1 _).mono ?_; rintro e w1 ⟨rfl, rfl⟩)
      go_ret
      exact ⟨ret_bool (by simp [rwB, hl.out]; intros; omega), hbx⟩
set_option maxRecDepth 100000 in
theorem c_l10Good (t : Int) (A : Option Addr) (n c : Nat) (ts : List Slot) (hf : fitL ts) {r : Bool} (hr : rwB t ts = r) (w : World) (hm : n ≤ 9223372036854775807) (h : Rd w A n 2 (ts.map Slot.cells)) :
    Calls Tryd.prog 15 #[.agg #[.int .i64 t, .slice A n c]] w fun e w' => e = .returned (.bool r) ∧ Bw w w' := by
  subst hr
  have hl := Lib.hid h.slotlen
  have hbx : Bw w (w.alloc (.cells #[.int .i64 t, .slice A n c] 30)) := Bw.alloc (Bw.refl _) _
  have HF := Lib.hid hf
  clear hf
  cases h1 : inR t 0 65535
  · go_enter Tryd.func15, Tryd.ntmps15
    go_wp2_with (go_at_call 29; refine (c_l2Good _ h1 _).mono ?_; rintro e w1 ⟨rfl, rfl⟩)
    go_ret
    exact ⟨ret_bool (by simp [rwB, h1]), hbx⟩
  · by_cases h3 : n ≤ 8
    · have HE := Lib.hid (show rwB t ts = (slotsB ts && edgeB ts) by simp [rwB, h1, hl.out, h3])
      go_enter Tryd.func15, Tryd.ntmps15
      go_wp2_with (go_at_call 29; refine (c_l2Good _ h1 _).mono ?_; rintro e w1 ⟨rfl, rfl⟩)
      go_loop [4] (fun i => ∃ k : Nat, k ≤ n ∧ i = .int .i64 k ∧ (∀ j (hj : j < k) (hj2 : j < ts.length), slotB ts[j] = true)) (fun i => n - (intOf i).toNat)
      case atStart => exact ⟨0, Nat.zero_le _, rfl, fun j hj => absurd hj (by omega)⟩
      case round =>
        obtain ⟨k, hk, rfl, hst⟩ := hrel
        have Hst := Lib.hid hst
        clear hst
        by_cases hkn : k < n
        · obtain ⟨b, off, rfl, hb, hc⟩ := (h.keep hbx).slots (by omega)
          have ⟨h0, h2⟩ := hc k hkn
          clear hc
          have hkt : k < ts.length := by rw [hl.out]; exact hkn
          have Ht := Lib.hid (slotAt_lt hkt)
          have Hs := Lib.hid (HF.out k hkt)
          have HB := Lib.hid (show slotB (slotAt ts k) = (itemB (slotAt ts k).item && ((slotAt ts k).have_ || decide ((slotAt ts k).item.toList = []))) from rfl)
          have HN := Lib.hid (fun h => slotsB_no (ts := ts) hkt h)
          have HY := Lib.hid (show slotB (slotAt ts k) = true → ∀ j (hj : j < k + 1) (hj2 : j < ts.length), slotB ts[j] = true from fun hp j hj hj2 => by
            rcases Nat.lt_succ_iff_lt_or_eq.1 hj with h9 | h9
            · exact Hst.out j h9 hj2
            · subst h9; rw [← Ht.out]; exact hp)
          clear Ht
          generalize slotAt ts k = s at *
          obtain ⟨a, d⟩ := s
          simp only at h0 h2
          have HBB := Lib.hid (show slotB ⟨a, d⟩ = (itemB d && (a || decide (d.toList = []))) from rfl)
          have HS := Lib.hid (show d.size ≤ maxLen from Hs.out)
          clear HB Hs
          cases hp : itemB d
          · have Hp := Lib.hid hp
            have HZ := Lib.hid (HN.out (by rw [HBB.out, hp]; rfl))
            go_wp2_with (go_at_call 30; refine (c_l4Letters _ HS.out Hp.out _).mono ?_; rintro e w1 ⟨rfl, rfl⟩)
            go_ret
            exact ⟨ret_bool (by rw [HE.out, HZ.out]; rfl), hbx⟩
          · have Hp := Lib.hid hp
            cases a
            · by_cases hz : d.toList = []
              · have HZ := Lib.hid (HY.out (by rw [HBB.out, hp]; simp [hz]))
                go_wp2_with (go_at_call 30; refine (c_l4Letters _ HS.out Hp.out _).mono ?_; rintro e w1 ⟨rfl, rfl⟩)
                go_round
                case rel => exact ⟨k + 1, by omega, by go_num, HZ.out⟩
                case measure => simp [intOf]; omega
              · have HZ := Lib.hid (HN.out (by rw [HBB.out, hp]; simp [hz]))
                have hz2 : d.toList.isEmpty = false := by simpa using hz
                go_wp2_with (go_at_call 30; refine (c_l4Letters _ HS.out Hp.out _).mono ?_; rintro e w1 ⟨rfl, rfl⟩)
                go_ret
                exact ⟨ret_bool (by rw [HE.out, HZ.out]; rfl), hbx⟩
            · have HZ := Lib.hid (HY.out (by rw [HBB.out, hp]; simp))
              go_wp2_with (go_at_call 30; refine (c_l4Letters _ HS.out Hp.out _).mono ?_; rintro e w1 ⟨rfl, rfl⟩)
              go_round
              case rel => exact ⟨k + 1, by omega, by go_num, HZ.out⟩
              case measure => simp [intOf]; omega
        · have HA := Lib.hid (slotsB_yes (ts := ts) (fun j hj => Hst.out j (by rw [hl.out] at hj; omega) hj))
          obtain rfl : k = n := by omega
          rcases Nat.eq_zero_or_pos k with rfl | hpos
          · have HG := Lib.hid (show edgeB ts = true by simp [edgeB, hl.out])
            go_wp2
            go_ret
            exact ⟨ret_bool (by rw [HE.out, HA.out, HG.out]; rfl), hbx⟩
          · obtain ⟨p, rfl⟩ : ∃ p, k = p + 1 := ⟨k - 1, by omega⟩
            obtain ⟨b, off, rfl, hb, hc⟩ := (h.keep hbx).slots hpos
            have q0 := (hc 0 (by omega)).1
            simp only [Nat.zero_mul, Nat.add_zero] at q0
            have q1 := (hc p (by omega)).1
            clear hc
            have HG := Lib.hid (show edgeB ts = (!(slotAt ts 0).have_ && (slotAt ts p).have_) by simp [edgeB, hl.out])
            generalize (slotAt ts 0).have_ = a0 at *
            generalize (slotAt ts p).have_ = ap at *
            cases a0
            all_goals cases ap
            all_goals
              go_wp2
              go_ret
              exact ⟨ret_bool (by rw [HE.out, HA.out, HG.out]; rfl), hbx⟩
    · go_enter Tryd.func15, Tryd.ntmps15
      go_wp2_with (go_at_call 29; refine (c_l2Good _ h1 _).mono ?_; rintro e w1 ⟨rfl, rfl⟩)
      go_ret
      exact ⟨ret_bool (by simp [rwB, hl.out]; intros; omega), hbx⟩
end Go.Proofs.YtedbidepplmjdaaDoor
