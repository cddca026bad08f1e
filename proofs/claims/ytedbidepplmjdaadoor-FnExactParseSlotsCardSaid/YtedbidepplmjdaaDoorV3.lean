
/- Receive windows: the two tests of one. -/
import Derived.Test.YtedbidepplmjdaaDoorV2
namespace Go.Proofs.YtedbidepplmjdaaDoor
open Go.RowKit
def slotB (s : Slot) : Bool := itemB s.item && (s.have_ || decide (s.item.toList = []))
def badS (s : Slot) : Bool := !slotB s
def slotsB (ts : List Slot) : Bool := ts.all slotB
def edgeB (ts : List Slot) : Bool := decide (ts.length = 0) || (!(slotAt ts 0).have_ && (slotAt ts (ts.length - 1)).have_)
def rwB (t : Int) (ts : List Slot) : Bool := inR t 0 65535 && (decide (ts.length ≤ 8) && (slotsB ts && edgeB ts))
theorem rwB_iff {t : Int} {ts : List Slot} : rwB t ts = true ↔ inR t 0 65535 = true ∧ ts.length ≤ 8 ∧ slotsB ts = true ∧ edgeB ts = true := by simp [rwB]
theorem slotsB_no {ts : List Slot} {k : Nat} (hk : k < ts.length) (h : slotB (slotAt ts k) = false) : slotsB ts = false := by
  rw [slotsB, List.all_eq_false]; exact ⟨ts[k], List.getElem_mem _, by rw [← slotAt_lt hk, h]; simp⟩
theorem slotsB_yes {ts : List Slot} (h : ∀ j (_ : j < ts.length), slotB ts[j] = true) : slotsB ts = true := by
  rw [slotsB, List.all_eq_true]
  intro x hx
  obtain ⟨j, hj, rfl⟩ := List.getElem_of_mem hx
  exact h j hj
theorem idx_slots (ts : List Slot) : decide (0 ≤ idxPI badS ts) = !slotsB ts := by
  rw [idxPI]
  split
  · rename_i h
    have := List.findIdx_getElem (xs := ts) (p := badS) (w := h)
    have h1 : slotsB ts = false := slotsB_no h (by rw [slotAt_lt h]; have q := this; simp only [badS, Bool.not_eq_true'] at q; exact q)
    simp [h1]
  · rename_i h
    have h1 : slotsB ts = true := by
      rw [slotsB, List.all_eq_true]
      intro x hx
      have := mt List.findIdx_lt_length.2 h
      simp only [not_exists, not_and] at this
      have := this x hx
      simpa [badS] using this
    simp [h1]
theorem c_valid1 (a : Bool) (d : ByteArray) (hd : d.size ≤ maxLen) {r : Bool} (hr : badS ⟨a, d⟩ = r) (w : World) : Calls Tryd.prog 35 #[.agg #[.bool a, .string d]] w fun e w' => e = .returned (.bool r) ∧ Bw w w' := by
  subst hr
  cases hi : itemB d
  · go_enter Tryd.func35, Tryd.ntmps35
    go_wp2_with (go_at_call 36; refine (c_isItem _ hd hi _).mono ?_; rintro e w1 ⟨rfl, hb1⟩)
    go_ret
    exact ⟨ret_bool (by simp [badS, slotB, hi]), Bw.trans (Bw.alloc (Bw.refl _) _) hb1⟩
  · cases a
    · by_cases hz : d.toList = []
      all_goals
        go_enter Tryd.func35, Tryd.ntmps35
        go_wp2_with (go_at_call 36; refine (c_isItem _ hd hi _).mono ?_; rintro e w1 ⟨rfl, hb1⟩; have d0 := hb1.cellv (p := ⟨w.heap.size, 0, none⟩) (v := .bool false) (by go_simp); have d1 := hb1.cellv (p := ⟨w.heap.size, 1, none⟩) (v := .string d) (by go_simp))
        go_ret
        exact ⟨ret_bool (by simp [badS, slotB, hi, hz]), Bw.trans (Bw.alloc (Bw.refl _) _) hb1⟩
    · go_enter Tryd.func35, Tryd.ntmps35
      go_wp2_with (go_at_call 36; refine (c_isItem _ hd hi _).mono ?_; rintro e w1 ⟨rfl, hb1⟩; have d0 := hb1.cellv (p := ⟨w.heap.size, 0, none⟩) (v := .bool true) (by go_simp); have d1 := hb1.cellv (p := ⟨w.heap.size, 1, none⟩) (v := .string d) (by go_simp))
      go_ret
      exact ⟨ret_bool (by simp [badS, slotB, hi]), Bw.trans (Bw.alloc (Bw.refl _) _) hb1⟩
theorem c_IndexFuncSlots (A : Option Addr) (n c : Nat) (ts : List Slot) (hf : fitL ts) {mm : Int} (hmm : idxPI badS ts = mm) (w : World) (hm : n ≤ 9223372036854775807) (h : Rd w A n 2 (ts.map Slot.cells)) :
    Calls Tryd.prog 45 #[.slice A n c, .func (.func 35) #[] #[]] w fun e w' => e = .returned (.int .i64 mm) ∧ Bw w w' := by
  subst hmm
  have hl := Lib.hid h.slotlen
  have HF := Lib.hid hf
  clear hf
  go_enter Tryd.func45, Tryd.ntmps45
  go_wp2
  go_loopw [8] (fun i wr => ∃ k : Nat, k ≤ n ∧ i = .int .i64 k ∧ (∀ j (hj : j < k) (hj2 : j < ts.length), badS ts[j] = false) ∧ Bw w wr) (fun i _ => n - (intOf i).toNat)
  case atStart => exact ⟨0, Nat.zero_le _, rfl, fun j hj => absurd hj (by omega), Bw.refl _⟩
  case round =>
    obtain ⟨k, hk, rfl, hst, hbl⟩ := hrel
    have Hst := Lib.hid hst
    clear hst
    by_cases hkn : k < n
    · obtain ⟨b, off, rfl, hb, hc⟩ := (h.keep hbl).slots (by omega)
      have ⟨h0, h1⟩ := hc k hkn
      clear hc
      have hkt : k < ts.length := by rw [hl.out]; exact hkn
      have Ht := Lib.hid (slotAt_lt hkt)
      have Hs := Lib.hid (HF.out k hkt)
      cases hp : badS (slotAt ts k)
      · have Hp := Lib.hid hp
        go_wp2_with (go_at_call 35; refine (c_valid1 _ _ Hs.out Hp.out _).mono ?_; rintro e w1 ⟨rfl, hb1⟩)
        go_roundw
        case rel =>
          refine ⟨k + 1, by omega, by go_num, ?_, hbl.trans hb1⟩
          intro j hj hj2
          rcases Nat.lt_succ_iff_lt_or_eq.1 hj with h9 | h9
          · exact Hst.out j h9 hj2
          · subst h9; rw [← Ht.out]; exact hp
        case measure => simp [intOf]; omega
      · have Hp := Lib.hid hp
        go_wp2_with (go_at_call 35; refine (c_valid1 _ _ Hs.out Hp.out _).mono ?_; rintro e w1 ⟨rfl, hb1⟩)
        go_ret
        have he := idxP_eq (p := badS) (ts := ts) hkt (by rw [← Ht.out]; exact hp) (fun j hj => Hst.out j hj (by omega))
        exact ⟨ret_int (by simp [idxPI, he, hkt]), hbl.trans hb1⟩
    · go_wp2
      go_ret
      have he := idxP_none (p := badS) (ts := ts) (fun j hj => Hst.out j (by rw [hl.out] at hj; omega) hj)
      exact ⟨ret_int (by simp [idxPI, he]), hbl⟩
theorem c_ContainsFuncSlots (A : Option Addr) (n c : Nat) (ts : List Slot) (hf : fitL ts) {r : Bool} (hr : slotsB ts = r) (w : World) (hm : n ≤ 9223372036854775807) (h : Rd w A n 2 (ts.map Slot.cells)) :
    Calls Tryd.prog 34 #[.slice A n c, .func (.func 35) #[] #[]] w fun e w' => e = .returned (.bool (!r)) ∧ Bw w w' := by
  subst hr
  generalize hm : idxPI badS ts = mm
  have HR := Lib.hid (show decide (0 ≤ mm) = !slotsB ts by rw [← hm, idx_slots])
  have HM := Lib.hid hm
  clear hm
  go_enter Tryd.func34, Tryd.ntmps34
  go_wp2_with (go_at_call 45; refine (c_IndexFuncSlots _ _ _ ts hf HM.out _ hm h).mono ?_; rintro e w1 ⟨rfl, hb1⟩)
  go_ret
  exact ⟨ret_bool HR.out, hb1⟩
end Go.Proofs.YtedbidepplmjdaaDoor
