
/- Receive windows: the numbers of slots with and without an item. -/
import Derived.Test.YtcemcgcbhmianaaDoorV5
namespace Go.Proofs.YtcemcgcbhmianaaDoor
open Go.RowKit
def cntH (ts : List Slot) : Nat := (ts.filter (·.have_)).length
theorem cntH_le (ts : List Slot) : cntH ts ≤ ts.length := List.length_filter_le _ _
theorem cntH_succ {ts : List Slot} {k : Nat} (hk : k < ts.length) : cntH (ts.take (k + 1)) = cntH (ts.take k) + (if (slotAt ts k).have_ then 1 else 0) := by
  rw [cntH, List.take_succ_eq_append_getElem hk, List.filter_append, List.length_append, cntH, slotAt_lt hk]
  cases h : ts[k].have_ <;> simp [h]
def waitA (t : Int) (ts : List Slot) : Int := if rwB t ts = true then (cntH ts : Int) else 0
def waitB (t : Int) (ts : List Slot) : Int := if rwB t ts = true then (ts.length : Int) - cntH ts else 0
set_option maxRecDepth 100000 in
theorem c_sCountWaiting (t : Int) (A : Option Addr) (n c : Nat) (ts : List Slot) (hf : fitL ts) {m : Int × Int} (hm : (waitA t ts, waitB t ts) = m) {r : Bool} (hr : rwB t ts = r) (w : World) (hn : n ≤ 9223372036854775807) (h : Rd w A n 2 (ts.map Slot.cells)) :
    Calls Tryd.prog 21 #[.agg #[.int .i64 t, .slice A n c]] w fun e w' => e = .returned (.tuple #[.int .i64 m.1, .int .i64 m.2, .bool r]) ∧ Bw w w' := by
  have hl := Lib.hid h.slotlen
  have hbx : Bw w (w.alloc (.cells #[.int .i64 t, .slice A n c] 29)) := Bw.alloc (Bw.refl _) _
  subst hr hm
  cases hg : rwB t ts
  · have HR := Lib.hid (show waitA t ts = 0 ∧ waitB t ts = 0 by simp [waitA, waitB, hg])
    rw [HR.out.1, HR.out.2]
    go_enter Tryd.func21, Tryd.ntmps21
    go_wp2_with (go_at_call 49; refine (c_l10Good t _ _ _ ts hf hg _ hn (h.keep hbx)).mono ?_; rintro e w1 ⟨rfl, hb1⟩)
    go_ret3
    exact ⟨rfl, hbx.trans hb1⟩
  · obtain ⟨g1, g2, g3, g4⟩ := rwB_iff.1 hg
    have hn8 : n ≤ 8 := by have := hl.out; omega
    have Hg := Lib.hid hg
    have HR := Lib.hid (show waitA t ts = cntH ts ∧ waitB t ts = (n : Int) - cntH ts by simp [waitA, waitB, hg, hl.out])
    have HT := Lib.hid (show ts.take n = ts by rw [List.take_of_length_le (by rw [hl.out]; omega)])
    clear g1 g2 g3 g4 hg
    rw [HR.out.1, HR.out.2]
    go_enter Tryd.func21, Tryd.ntmps21
    go_wp2_with (go_at_call 49; refine (c_l10Good t _ _ _ ts hf Hg.out _ hn (h.keep hbx)).mono ?_; rintro e w1 ⟨rfl, hb1⟩; have d0 := hb1.cellv (p := ⟨w.heap.size, 0, none⟩) (v := .int .i64 t) (by go_simp); have d1 := hb1.cellv (p := ⟨w.heap.size, 1, none⟩) (v := .slice A n c) (by go_simp))
    go_loop [5, 6] (fun v i => ∃ k : Nat, k ≤ n ∧ i = .int .i64 k ∧ v = .int .i64 (cntH (ts.take k) : Nat)) (fun _ i => n - (intOf i).toNat)
    case atStart => exact ⟨0, Nat.zero_le _, rfl, rfl⟩
    case round =>
      obtain ⟨k, hk, rfl, rfl⟩ := hrel
      have hcl : cntH (ts.take k) ≤ k := by have := cntH_le (ts.take k); rw [List.length_take] at this; omega
      by_cases hkn : k < n
      · obtain ⟨b, off, rfl, hb, hc⟩ := (h.keep (hbx.trans hb1)).slots (by omega)
        have q0 := (hc k hkn).1
        clear hc
        have hkt : k < ts.length := by rw [hl.out]; exact hkn
        have HS := Lib.hid (cntH_succ hkt)
        generalize (slotAt ts k).have_ = a0 at *
        generalize cntH (ts.take k) = cc at *
        cases a0
        · go_wp2
          go_round
          case rel => exact ⟨k + 1, by omega, by go_num, by rw [HS.out]; simp⟩
          case measure => simp [intOf]; omega
        · go_wp2
          go_round
          case rel => exact ⟨k + 1, by omega, by go_num, by rw [HS.out]; simp⟩
          case measure => simp [intOf]; omega
      · obtain rfl : k = n := by omega
        rw [HT.out]
        have hcl2 : cntH ts ≤ k := by have := cntH_le ts; rw [hl.out] at this; exact this
        go_wp2
        go_region
        all_goals go_wp2
        all_goals go_ret3
        all_goals exact ⟨rfl, Bw.drew (hbx.trans hb1)⟩
set_option maxRecDepth 100000 in
theorem c_iCountWaiting (t : Int) (A : Option Addr) (n c : Nat) (ts : List Slot) (hf : fitL ts) {m : Int × Int} (hm : (waitA t ts, waitB t ts) = m) {r : Bool} (hr : rwB t ts = r) (w : World) (hn : n ≤ 9223372036854775807) (h : Rd w A n 2 (ts.map Slot.cells)) :
    Calls Tryd.prog 22 #[.agg #[.int .i64 t, .slice A n c]] w fun e w' => e = .returned (.tuple #[.int .i64 m.1, .int .i64 m.2, .bool r]) ∧ Bw w w' := by
  have hl := Lib.hid h.slotlen
  have hbx : Bw w (w.alloc (.cells #[.int .i64 t, .slice A n c] 29)) := Bw.alloc (Bw.refl _) _
  subst hr hm
  cases hg : rwB t ts
  · have HR := Lib.hid (show waitA t ts = 0 ∧ waitB t ts = 0 by simp [waitA, waitB, hg])
    rw [HR.out.1, HR.out.2]
    go_enter Tryd.func22, Tryd.ntmps22
    go_wp2_with (go_at_call 17; refine (c_IsValidReceiveWindow t _ _ _ ts hf hg _ hn (h.keep hbx)).mono ?_; rintro e w1 ⟨rfl, hb1⟩)
    go_ret3
    exact ⟨rfl, hbx.trans hb1⟩
  · obtain ⟨g1, g2, g3, g4⟩ := rwB_iff.1 hg
    have hn8 : n ≤ 8 := by have := hl.out; omega
    have Hg := Lib.hid hg
    have HR := Lib.hid (show waitA t ts = cntH ts ∧ waitB t ts = (n : Int) - cntH ts by simp [waitA, waitB, hg, hl.out])
    have HT := Lib.hid (show ts.take n = ts by rw [List.take_of_length_le (by rw [hl.out]; omega)])
    clear g1 g2 g3 g4 hg
    rw [HR.out.1, HR.out.2]
    go_enter Tryd.func22, Tryd.ntmps22
    go_wp2_with (go_at_call 17; refine (c_IsValidReceiveWindow t _ _ _ ts hf Hg.out _ hn (h.keep hbx)).mono ?_; rintro e w1 ⟨rfl, hb1⟩; have d0 := hb1.cellv (p := ⟨w.heap.size, 0, none⟩) (v := .int .i64 t) (by go_simp); have d1 := hb1.cellv (p := ⟨w.heap.size, 1, none⟩) (v := .slice A n c) (by go_simp))
    go_loopw [5, 14] (fun v i wr => ∃ k : Nat, k ≤ n ∧ i = .int .i64 k ∧ v = .int .i64 (cntH (ts.take k) : Nat) ∧ Bw w1 wr) (fun _ i _ => n - (intOf i).toNat)
    case atStart => exact ⟨0, Nat.zero_le _, rfl, rfl, Bw.refl _⟩
    case round =>
      obtain ⟨k, hk, rfl, rfl, hbl⟩ := hrel
      have d0' := hbl.cellv d0
      have d1' := hbl.cellv d1
      have hcl : cntH (ts.take k) ≤ k := by have := cntH_le (ts.take k); rw [List.length_take] at this; omega
      by_cases hkn : k < n
      · obtain ⟨b, off, rfl, hb, hc⟩ := (h.keep ((hbx.trans hb1).trans hbl)).slots (by omega)
        have ⟨q0, q1⟩ := hc k hkn
        clear hc
        have hkt : k < ts.length := by rw [hl.out]; exact hkn
        have HS := Lib.hid (cntH_succ hkt)
        generalize slotAt ts k = s at *
        obtain ⟨a0, dd⟩ := s
        simp only at q0 q1
        generalize cntH (ts.take k) = cc at *
        cases a0
        · go_wp2
          go_roundw
          case rel => exact ⟨k + 1, by omega, by go_num, by rw [HS.out]; simp, by (repeat (first | with_reducible assumption | exact Bw.refl _ | (with_reducible refine Bw.setCell ?_ (by simp) _) | (with_reducible refine Bw.alloc ?_ _) | (with_reducible refine Bw.drew ?_) | (with_reducible refine Bw.drewN ?_ _)))⟩
          case measure => simp [intOf]; omega
        · go_wp2
          go_roundw
          case rel => exact ⟨k + 1, by omega, by go_num, by rw [HS.out]; simp, by (repeat (first | with_reducible assumption | exact Bw.refl _ | (with_reducible refine Bw.setCell ?_ (by simp) _) | (with_reducible refine Bw.alloc ?_ _) | (with_reducible refine Bw.drew ?_) | (with_reducible refine Bw.drewN ?_ _)))⟩
          case measure => simp [intOf]; omega
      · obtain rfl : k = n := by omega
        rw [HT.out]
        have hcl2 : cntH ts ≤ k := by have := cntH_le ts; rw [hl.out] at this; exact this
        go_wp2
        go_region
        all_goals go_wp2
        all_goals go_ret3
        all_goals exact ⟨rfl, Bw.drew ((hbx.trans hb1).trans hbl)⟩
end Go.Proofs.YtcemcgcbhmianaaDoor
