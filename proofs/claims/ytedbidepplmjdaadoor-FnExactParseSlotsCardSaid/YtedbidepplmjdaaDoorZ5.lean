
/- Marks of slots, to the letter. -/
import Derived.Test.YtedbidepplmjdaaDoorK21
import Derived.Test.YtedbidepplmjdaaDoorK13
import Derived.Test.YtedbidepplmjdaaDoorV2
namespace Go.Proofs.YtedbidepplmjdaaDoor
open Go.RowKit
def mslot (k : Int) : Slot := ⟨k % 3 == 0, mtext (k + 1)⟩
def marksL : Nat → Int → List Slot
  | 0, _ => []
  | n + 1, k => mslot k :: marksL n (k + 2)
theorem marksL_len (n : Nat) (k : Int) : (marksL n k).length = n := by
  induction n generalizing k with
  | zero => rfl
  | succ n ih => simp [marksL, ih]
theorem marksL_get (n : Nat) (k : Int) (j : Nat) (hj : j < n) : slotAt (marksL n k) j = mslot (k + 2 * j) := by
  induction n generalizing k j with
  | zero => omega
  | succ n ih =>
    cases j with
    | zero => simp [marksL, slotAt]
    | succ j =>
      have := ih (k + 2) j (by omega)
      simp only [slotAt, marksL, List.getD_cons_succ] at this ⊢
      rw [this]
      congr 1
      omega
set_option maxRecDepth 100000 in
theorem c_heldSlotS (A : Option Addr) (n c : Nat) (k0 : Int) (w : World) (hn : n ≤ 1048576) (hk0 : 0 ≤ k0) (hk1 : k0 ≤ 100000000) (h : Rd w A n 2 ((marksL n k0).map Slot.cells)) :
    Calls Tryd.prog 27 #[.slice A n c, .int .i64 k0] w fun e w' => e = .returned (.int .i64 (k0 + 2 * n)) ∧ Bw w w' := by
  go_enter Tryd.func27, Tryd.ntmps27
  go_wp2
  go_loopw [1, 5] (fun kv i wr => ∃ k : Nat, k ≤ n ∧ i = .int .i64 k ∧ kv = .int .i64 (k0 + 2 * k) ∧ Bw w wr) (fun _ i _ => n - (intOf i).toNat)
  case atStart => exact ⟨0, Nat.zero_le _, rfl, by simp, Bw.refl _⟩
  case round =>
    obtain ⟨k, hk, rfl, rfl, hbl⟩ := hrel
    by_cases hlt : k < n
    · obtain ⟨b, off, rfl, hb, hcc⟩ := (h.keep hbl).slots (by omega)
      have ⟨q0, q1⟩ := hcc k hlt
      rw [marksL_get _ _ _ hlt] at q0 q1
      simp only [mslot] at q0 q1
      clear hcc
      have HC := Lib.hid (fun W => c_markTextE (k0 + 2 * k + 1) (by omega) (by omega) W)
      generalize mtext (k0 + 2 * (k : Int) + 1) = tx at *
      go_wp2
      (refine wp_region_ext (by kernel_rfl) (by kernel_rfl) ?_; (repeat (go_big_quiet_step (exact Ext.calls (HC.out _)))); (with_reducible refine wpQuiet_nil ?_); intro w2 hb2)
      go_wp2
      go_roundw
      case rel => exact ⟨k + 1, by omega, by go_num, by congr 1; omega, hbl.trans hb2⟩
      case measure => simp [intOf]; omega
    · go_wp2
      go_ret
      obtain rfl : k = n := by omega
      exact ⟨rfl, hbl⟩
theorem c_heldReceiveWindow (t : Int) (A : Option Addr) (n c : Nat) (k0 : Int) (w : World) (hn : n ≤ 1048576) (hk0 : 0 ≤ k0) (hk1 : k0 ≤ 100000000) (h : Rd w A n 2 ((marksL n k0).map Slot.cells)) :
    Calls Tryd.prog 13 #[.agg #[.int .i64 t, .slice A n c], .int .i64 k0] w fun e w' => e = .returned (.int .i64 (k0 + 2 * n)) ∧ Bw w w' := by
  have hge : ¬ k0 + 2 * (n : Int) < 0 := by omega
  have hb0 := (Bw.refl w).alloc (.cells #[.int .i64 t, .slice A n c] 30)
  go_enter Tryd.func13, Tryd.ntmps13
  go_wp2_with fail
  refine (c_heldSlotS A n c k0 _ hn hk0 hk1 (h.keep hb0)).mono ?_
  rintro e w1 ⟨rfl, hb1⟩
  go_wp2
  go_ret
  exact ⟨rfl, hb0.trans hb1⟩
set_option maxRecDepth 100000 in
theorem c_markSlotS (A : Option Addr) (n c : Nat) (ts : List Slot) (k0 : Int) (lo : Nat) (w : World) (hn : n ≤ 1048576) (hk0 : 0 ≤ k0) (hk1 : k0 ≤ 100000000) (h : Row w lo 48 2 Slot.cells A n c ts) :
    Calls Tryd.prog 26 #[.slice A n c, .int .i64 k0] w fun e w' => e = .returned (.int .i64 (k0 + 2 * n)) ∧ Row w' lo 48 2 Slot.cells A n c (marksL n k0) ∧ w.grownBy w' (Value.ownBlock (.slice A n c)) := by
  have hl := Lib.hid h.len
  have hml := Lib.hid (marksL_len n k0)
  go_enter Tryd.func26, Tryd.ntmps26
  go_wp2
  go_loopw [1, 5] (fun kv i wr => ∃ k : Nat, k ≤ n ∧ i = .int .i64 k ∧ kv = .int .i64 (k0 + 2 * k) ∧ Row wr lo 48 2 Slot.cells A n c ((marksL n k0).take k ++ ts.drop k) ∧ w.grownBy wr (Value.ownBlock (.slice A n c))) (fun _ i _ => n - (intOf i).toNat)
  case atStart => exact ⟨0, Nat.zero_le _, rfl, by simp, by simpa using h, World.grownBy.refl _ _⟩
  case round =>
    obtain ⟨k, hk, rfl, rfl, hrow, hg⟩ := hrel
    by_cases hlt : k < n
    · obtain ⟨g, rfl, hlo, hgl⟩ := hrow.form (by omega)
      obtain ⟨g2, off, hA, _, hcc⟩ := (hrow.rd (fun _ => rfl)).slots (by omega)
      simp only [Option.some.injEq, Addr.mk.injEq, and_true] at hA
      obtain ⟨rfl, rfl⟩ := hA
      have ⟨q0, q1⟩ := hcc k hlt
      simp only [Nat.zero_add] at q0 q1
      have hfz0 := hrow.frozen (k * 2)
      have hfz1 := hrow.frozen (k * 2 + 1)
      clear hcc
      have hLl := hrow.len
      have HLL := Lib.hid hLl
      have S1 := hrow.setAt (k := k) (j := 0) (v := .bool ((k0 + 2 * (k : Int)) % 3 == 0)) (t' := ⟨(k0 + 2 * (k : Int)) % 3 == 0, (slotAt ((marksL n k0).take k ++ ts.drop k) k).item⟩) (fun _ => rfl) (by omega) (by decide) (by rw [slotAt_lt (by omega)]; rfl)
      simp only [Nat.add_zero] at S1
      have HS1 := Lib.hid S1
      clear S1 hLl
      have HG := Lib.hid (marksL_get n k0 k hlt)
      go_wp2_with (go_at_call 44; refine (c_markTextE (k0 + 2 * k + 1) (by omega) (by omega) _).mono ?_; rintro e w1 ⟨rfl, hb1⟩; have row1 := HS1.out.1.keep hb1; have z1 := row1.frozen (k * 2 + 1); obtain ⟨g3, off3, hA3, _, hc3⟩ := (row1.rd (fun _ => rfl)).slots (by omega); have p1 := (hc3 k hlt).2; simp only [Option.some.injEq, Addr.mk.injEq, and_true] at hA3; obtain ⟨rfl, rfl⟩ := hA3; simp only [Nat.zero_add] at p1; clear hc3)
      all_goals
        go_roundw
        case rel =>
          have S2 := row1.setAt (k := k) (j := 1) (v := .string (mtext (k0 + 2 * (k : Int) + 1))) (t' := mslot (k0 + 2 * (k : Int))) (fun _ => rfl) (by rw [List.length_set]; have := HLL.out; omega) (by decide) (by simp [Slot.cells, mslot])
          refine ⟨k + 1, by omega, by go_num, by congr 1; omega, ?_, ((hg.trans HS1.out.2).trans hb1.toGrown.weaken).trans S2.2⟩
          have e1 : (((marksL n k0).take k ++ ts.drop k).set k ⟨(k0 + 2 * (k : Int)) % 3 == 0, (slotAt ((marksL n k0).take k ++ ts.drop k) k).item⟩).set k (mslot (k0 + 2 * (k : Int))) = (marksL n k0).take (k + 1) ++ ts.drop (k + 1) := by
            have hm := hml.out
            have ht := hl.out
            have h1 : ((marksL n k0).take k).length = k := by simp; omega
            rw [List.set_set, List.set_append_right _ _ (by omega), h1, Nat.sub_self, List.take_succ_eq_append_getElem (by omega), List.drop_eq_getElem_cons (by omega), List.set_cons_zero, List.append_assoc, ← slotAt_lt, HG.out]
            rfl
          rw [← e1]
          exact S2.1
        case measure => simp [intOf]; omega
    · go_wp2
      go_ret
      obtain rfl : k = n := by omega
      have hm := hml.out
      have ht := hl.out
      rw [List.take_of_length_le (by omega), List.drop_of_length_le (by omega), List.append_nil] at hrow
      exact ⟨rfl, hrow, hg⟩
theorem c_markReceiveWindow (t : Int) (A : Option Addr) (n c : Nat) (ts : List Slot) (k0 : Int) (lo : Nat) (w : World) (hn : n ≤ 1048576) (hk0 : 0 ≤ k0) (hk1 : k0 ≤ 100000000) (h : Row w lo 48 2 Slot.cells A n c ts) :
    Calls Tryd.prog 12 #[.agg #[.int .i64 t, .slice A n c], .int .i64 k0] w fun e w' => e = .returned (.int .i64 (k0 + 2 * n)) ∧ Row w' lo 48 2 Slot.cells A n c (marksL n k0) ∧ w.grownBy w' (Value.ownBlock (.slice A n c)) := by
  have hb0 := (Bw.refl w).alloc (.cells #[.int .i64 t, .slice A n c] 30)
  go_enter Tryd.func12, Tryd.ntmps12
  go_wp2_with fail
  refine (c_markSlotS A n c ts k0 lo _ hn hk0 hk1 (h.keep hb0)).mono ?_
  rintro e w1 ⟨rfl, row1, hg1⟩
  go_wp2
  go_ret
  exact ⟨rfl, row1, (World.grownBy_alloc w _ _).trans hg1⟩
end Go.Proofs.YtedbidepplmjdaaDoor
