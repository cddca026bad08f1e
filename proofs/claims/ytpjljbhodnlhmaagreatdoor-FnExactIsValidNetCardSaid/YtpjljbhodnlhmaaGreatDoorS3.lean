
/- Send windows: the two tests of one; the law's own helpers. -/
import Derived.Test.YtpjljbhodnlhmaaGreatDoorS2
namespace Go.Proofs.YtpjljbhodnlhmaaGreatDoor
open Go.RowKit
theorem grown_setCell (w : World) (a : Addr) (u : Value) : w.grownBy (w.setCell a u) (some a.block) :=
  ⟨rfl, rfl, rfl, by simp, fun k _ hk => heap_setCell_other w a k u (fun e => hk (by rw [e]))⟩
theorem Row.store {T : Type} {w : World} {lo : Nat} {e : TypeId} {sz : Nat} {enc : T → List Value} {A : Option Addr} {n c : Nat} {ts : List T} (h : Row w lo e sz enc A n c ts) (p : Addr) (u : Value) (ha : ∀ x, A = some x → p.block ≠ x.block) : Row (w.setCell p u) lo e sz enc A n c ts :=
  h.grown (grown_setCell w p u) (fun x hx he => ha x hx (Option.some.inj he))
def badI (s : ByteArray) : Bool := !itemB s
def itemsB (ss : List ByteArray) : Bool := ss.all itemB
theorem idx_items (ss : List ByteArray) : decide (0 ≤ idxPI badI ss) = !itemsB ss := by
  rw [idxPI]
  split
  · rename_i h
    have h1 : itemsB ss = false := by
      rw [itemsB, List.all_eq_false]
      have := List.findIdx_getElem (xs := ss) (p := badI) (w := h)
      exact ⟨_, List.getElem_mem _, by simpa [badI] using this⟩
    simp [h1]
  · rename_i h
    have h1 : itemsB ss = true := by
      rw [itemsB, List.all_eq_true]
      intro x hx
      have := mt List.findIdx_lt_length.2 h
      simp only [not_exists, not_and] at this
      have := this x hx
      simpa [badI] using this
    simp [h1]
theorem c_areItems1 (s : ByteArray) (hs : s.size ≤ maxLen) {r : Bool} (hr : badI s = r) (w : World) : Calls Tryz.prog 156 #[.string s] w fun e w' => e = .returned (.bool r) ∧ Bw w w' := by
  generalize hi : itemB s = ri
  have HR := Lib.hid (show (!ri) = r by rw [← hr, badI, hi])
  go_enter Tryz.func156, Tryz.ntmps156
  go_wp2_with (go_at_call 157; refine (c_isItem _ hs hi _).mono ?_; rintro e w1 ⟨rfl, hb1⟩)
  go_ret
  exact ⟨ret_bool HR.out, hb1⟩
theorem c_IndexFuncItems (A : Option Addr) (n c : Nat) (ss : List ByteArray) (hf : fitS ss) {mm : Int} (hmm : idxPI badI ss = mm) (w : World) (hm : n ≤ 9223372036854775807) (h : Rd w A n 1 (ss.map scell)) :
    Calls Tryz.prog 170 #[.slice A n c, .func (.func 156) #[] #[]] w fun e w' => e = .returned (.int .i64 mm) ∧ Bw w w' := by
  subst hmm
  have hl := Lib.hid h.slen
  have HF := Lib.hid hf
  clear hf
  go_enter Tryz.func170, Tryz.ntmps170
  go_wp2
  go_loopw [8] (fun i wr => ∃ k : Nat, k ≤ n ∧ i = .int .i64 k ∧ (∀ j (hj : j < k) (hj2 : j < ss.length), badI ss[j] = false) ∧ Bw w wr) (fun i _ => n - (intOf i).toNat)
  case atStart => exact ⟨0, Nat.zero_le _, rfl, fun j hj => absurd hj (by omega), Bw.refl _⟩
  case round =>
    obtain ⟨k, hk, rfl, hst, hbl⟩ := hrel
    have Hst := Lib.hid hst
    clear hst
    by_cases hkn : k < n
    · obtain ⟨b, off, rfl, hb, hc⟩ := (h.keep hbl).strs (by omega)
      have h0 := hc k hkn
      clear hc
      have hkt : k < ss.length := by rw [hl.out]; exact hkn
      have Ht := Lib.hid (strAt_lt hkt)
      have Hs := Lib.hid (HF.out k hkt)
      cases hp : badI (strAt ss k)
      · go_wp2_with (go_at_call 156; refine (c_areItems1 _ Hs.out hp _).mono ?_; rintro e w1 ⟨rfl, hb1⟩)
        go_roundw
        case rel =>
          refine ⟨k + 1, by omega, by go_num, ?_, hbl.trans hb1⟩
          intro j hj hj2
          rcases Nat.lt_succ_iff_lt_or_eq.1 hj with h9 | h9
          · exact Hst.out j h9 hj2
          · subst h9; rw [← Ht.out]; exact hp
        case measure => simp [intOf]; omega
      · go_wp2_with (go_at_call 156; refine (c_areItems1 _ Hs.out hp _).mono ?_; rintro e w1 ⟨rfl, hb1⟩)
        go_ret
        have he := idxP_eq (p := badI) (ts := ss) hkt (by rw [← Ht.out]; exact hp) (fun j hj => Hst.out j hj (by omega))
        exact ⟨ret_int (by simp [idxPI, he, hkt]), hbl.trans hb1⟩
    · go_wp2
      go_ret
      have he := idxP_none (p := badI) (ts := ss) (fun j hj => Hst.out j (by rw [hl.out] at hj; omega) hj)
      exact ⟨ret_int (by simp [idxPI, he]), hbl⟩
theorem c_ContainsFuncItems (A : Option Addr) (n c : Nat) (ss : List ByteArray) (hf : fitS ss) {r : Bool} (hr : itemsB ss = r) (w : World) (hm : n ≤ 9223372036854775807) (h : Rd w A n 1 (ss.map scell)) :
    Calls Tryz.prog 155 #[.slice A n c, .func (.func 156) #[] #[]] w fun e w' => e = .returned (.bool (!r)) ∧ Bw w w' := by
  subst hr
  generalize hm : idxPI badI ss = mm
  have HR := Lib.hid (show decide (0 ≤ mm) = !itemsB ss by rw [← hm, idx_items])
  have HM := Lib.hid hm
  clear hm
  go_enter Tryz.func155, Tryz.ntmps155
  go_wp2_with (go_at_call 170; refine (c_IndexFuncItems _ _ _ ss hf HM.out _ hm h).mono ?_; rintro e w1 ⟨rfl, hb1⟩)
  go_ret
  exact ⟨ret_bool HR.out, hb1⟩
theorem c_areItems (A : Option Addr) (n c : Nat) (ss : List ByteArray) (hf : fitS ss) {r : Bool} (hr : itemsB ss = r) (w : World) (hm : n ≤ 9223372036854775807) (h : Rd w A n 1 (ss.map scell)) :
    Calls Tryz.prog 126 #[.slice A n c] w fun e w' => e = .returned (.bool r) ∧ Bw w w' := by
  go_enter Tryz.func126, Tryz.ntmps126
  go_wp2_with (go_at_call 155; refine (c_ContainsFuncItems _ _ _ ss hf hr _ hm h).mono ?_; rintro e w1 ⟨rfl, hb1⟩)
  go_ret
  exact ⟨ret_bool (by simp), hb1⟩
def swB (t z : Int) (ss : List ByteArray) : Bool := inR t 0 65535 && (inR z 1 6 && (decide ((ss.length : Int) ≤ z) && itemsB ss))
theorem swB_iff {t z : Int} {ss : List ByteArray} : swB t z ss = true ↔ inR t 0 65535 = true ∧ inR z 1 6 = true ∧ (ss.length : Int) ≤ z ∧ itemsB ss = true := by simp [swB]
theorem c_IsValidSendWindow (t z : Int) (A : Option Addr) (n c : Nat) (ss : List ByteArray) (hf : fitS ss) {r : Bool} (hr : swB t z ss = r) (w : World) (hm : n ≤ 9223372036854775807) (h : Rd w A n 1 (ss.map scell)) :
    Calls Tryz.prog 84 #[.agg #[.int .i64 t, .int .i64 z, .slice A n c]] w fun e w' => e = .returned (.bool r) ∧ Bw w w' := by
  subst hr
  have hl := Lib.hid h.slen
  cases h1 : inR t 0 65535
  · go_enter Tryz.func84, Tryz.ntmps84
    go_wp2_with (go_at_call 86; refine (c_IsSerial _ h1 _).mono ?_; rintro e w1 ⟨rfl, rfl⟩)
    go_ret
    exact ⟨ret_bool (by simp [swB, h1]), by (repeat (first | with_reducible assumption | exact Bw.refl _ | (with_reducible refine Bw.setCell ?_ (by simp) _) | (with_reducible refine Bw.alloc ?_ _) | (with_reducible refine Bw.drew ?_) | (with_reducible refine Bw.drewN ?_ _)))⟩
  · cases h2 : inR z 1 6
    · go_enter Tryz.func84, Tryz.ntmps84
      go_wp2_with (first | (go_at_call 86; refine (c_IsSerial _ h1 _).mono ?_; rintro e w1 ⟨rfl, rfl⟩) | (go_at_call 54; refine (c_within _ _ _ h2 _).mono ?_; rintro e w1 ⟨rfl, rfl⟩))
      go_ret
      exact ⟨ret_bool (by simp [swB, h2]), by (repeat (first | with_reducible assumption | exact Bw.refl _ | (with_reducible refine Bw.setCell ?_ (by simp) _) | (with_reducible refine Bw.alloc ?_ _) | (with_reducible refine Bw.drew ?_) | (with_reducible refine Bw.drewN ?_ _)))⟩
    · have ⟨z0, z1⟩ := inR_iff.1 h2
      by_cases h3 : (n : Int) ≤ z
      · cases h4 : itemsB ss
        all_goals
          go_enter Tryz.func84, Tryz.ntmps84
          go_wp2_with (first | (go_at_call 86; refine (c_IsSerial _ h1 _).mono ?_; rintro e w1 ⟨rfl, rfl⟩) | (go_at_call 54; refine (c_within _ _ _ h2 _).mono ?_; rintro e w1 ⟨rfl, rfl⟩) | (go_at_call 126; refine (c_areItems _ _ _ ss hf h4 _ hm (h.keep (Bw.alloc (Bw.refl _) _))).mono ?_; rintro e w1 ⟨rfl, hb1⟩))
          go_ret
          exact ⟨ret_bool (by simp [swB, h1, h2, h4, hl.out, h3]), Bw.trans (Bw.alloc (Bw.refl _) _) hb1⟩
      · go_enter Tryz.func84, Tryz.ntmps84
        go_wp2_with (first | (go_at_call 86; refine (c_IsSerial _ h1 _).mono ?_; rintro e w1 ⟨rfl, rfl⟩) | (go_at_call 54; refine (c_within _ _ _ h2 _).mono ?_; rintro e w1 ⟨rfl, rfl⟩))
        go_ret
        exact ⟨ret_bool (by simp [swB, hl.out]; intros; omega), by (repeat (first | with_reducible assumption | exact Bw.refl _ | (with_reducible refine Bw.setCell ?_ (by simp) _) | (with_reducible refine Bw.alloc ?_ _) | (with_reducible refine Bw.drew ?_) | (with_reducible refine Bw.drewN ?_ _)))⟩
theorem c_l9Good (t z : Int) (A : Option Addr) (n c : Nat) (ss : List ByteArray) (hf : fitS ss) {r : Bool} (hr : swB t z ss = r) (w : World) (hm : n ≤ 9223372036854775807) (h : Rd w A n 1 (ss.map scell)) :
    Calls Tryz.prog 97 #[.agg #[.int .i64 t, .int .i64 z, .slice A n c]] w fun e w' => e = .returned (.bool r) ∧ Bw w w' := by
  subst hr
  have hl := Lib.hid h.slen
  cases h1 : inR t 0 65535
  · go_enter Tryz.func97, Tryz.ntmps97
    go_wp2_with (go_at_call 99; refine (c_l2Good _ h1 _).mono ?_; rintro e w1 ⟨rfl, rfl⟩)
    go_ret
    exact ⟨ret_bool (by simp [swB, h1]), by (repeat (first | with_reducible assumption | exact Bw.refl _ | (with_reducible refine Bw.setCell ?_ (by simp) _) | (with_reducible refine Bw.alloc ?_ _) | (with_reducible refine Bw.drew ?_) | (with_reducible refine Bw.drewN ?_ _)))⟩
  · cases h2 : inR z 1 6
    · go_enter Tryz.func97, Tryz.ntmps97
      go_wp2_with (first | (go_at_call 99; refine (c_l2Good _ h1 _).mono ?_; rintro e w1 ⟨rfl, rfl⟩) | (go_at_call 53; refine (c_l1In _ _ _ h2 _).mono ?_; rintro e w1 ⟨rfl, rfl⟩))
      go_ret
      exact ⟨ret_bool (by simp [swB, h2]), by (repeat (first | with_reducible assumption | exact Bw.refl _ | (with_reducible refine Bw.setCell ?_ (by simp) _) | (with_reducible refine Bw.alloc ?_ _) | (with_reducible refine Bw.drew ?_) | (with_reducible refine Bw.drewN ?_ _)))⟩
    · have ⟨z0, z1⟩ := inR_iff.1 h2
      by_cases h3 : (n : Int) ≤ z
      · have HE := Lib.hid (show swB t z ss = itemsB ss by simp [swB, h1, h2, hl.out, h3])
        have HF := Lib.hid hf
        clear hf
        have hbx : Bw w (w.alloc (.cells #[.int .i64 t, .int .i64 z, .slice A n c] 29)) := Bw.alloc (Bw.refl _) _
        go_enter Tryz.func97, Tryz.ntmps97
        go_wp2_with (first | (go_at_call 99; refine (c_l2Good _ h1 _).mono ?_; rintro e w1 ⟨rfl, rfl⟩) | (go_at_call 53; refine (c_l1In _ _ _ h2 _).mono ?_; rintro e w1 ⟨rfl, rfl⟩))
        go_loop [3] (fun i => ∃ k : Nat, k ≤ n ∧ i = .int .i64 k ∧ (∀ j (hj : j < k) (hj2 : j < ss.length), itemB ss[j] = true)) (fun i => n - (intOf i).toNat)
        case atStart => exact ⟨0, Nat.zero_le _, rfl, fun j hj => absurd hj (by omega)⟩
        case round =>
          obtain ⟨k, hk, rfl, hst⟩ := hrel
          have Hst := Lib.hid hst
          clear hst
          by_cases hkn : k < n
          · obtain ⟨b, off, rfl, hb, hc⟩ := (h.keep hbx).strs (by omega)
            have h0 := hc k hkn
            clear hc
            have hkt : k < ss.length := by rw [hl.out]; exact hkn
            have Ht := Lib.hid (strAt_lt hkt)
            have Hs := Lib.hid (HF.out k hkt)
            cases hp : itemB (strAt ss k)
            · go_wp2_with (go_at_call 140; refine (c_l4Letters _ Hs.out hp _).mono ?_; rintro e w1 ⟨rfl, rfl⟩)
              go_ret
              exact ⟨ret_bool (by rw [HE.out, itemsB]; exact (List.all_eq_false.2 ⟨ss[k], List.getElem_mem _, by rw [← Ht.out, hp]; simp⟩).symm), hbx⟩
            · go_wp2_with (go_at_call 140; refine (c_l4Letters _ Hs.out hp _).mono ?_; rintro e w1 ⟨rfl, rfl⟩)
              go_round
              case rel =>
                refine ⟨k + 1, by omega, by go_num, ?_⟩
                intro j hj hj2
                rcases Nat.lt_succ_iff_lt_or_eq.1 hj with h9 | h9
                · exact Hst.out j h9 hj2
                · subst h9; rw [← Ht.out]; exact hp
              case measure => simp [intOf]; omega
          · go_wp2
            go_ret
            refine ⟨ret_bool ?_, hbx⟩
            rw [HE.out, itemsB]
            refine (List.all_eq_true.2 fun x hx => ?_).symm
            obtain ⟨j, hj, rfl⟩ := List.getElem_of_mem hx
            exact Hst.out j (by rw [hl.out] at hj; omega) hj
      · go_enter Tryz.func97, Tryz.ntmps97
        go_wp2_with (first | (go_at_call 99; refine (c_l2Good _ h1 _).mono ?_; rintro e w1 ⟨rfl, rfl⟩) | (go_at_call 53; refine (c_l1In _ _ _ h2 _).mono ?_; rintro e w1 ⟨rfl, rfl⟩))
        go_ret
        exact ⟨ret_bool (by simp [swB, hl.out]; intros; omega), by (repeat (first | with_reducible assumption | exact Bw.refl _ | (with_reducible refine Bw.setCell ?_ (by simp) _) | (with_reducible refine Bw.alloc ?_ _) | (with_reducible refine Bw.drew ?_) | (with_reducible refine Bw.drewN ?_ _)))⟩
end Go.Proofs.YtpjljbhodnlhmaaGreatDoor
