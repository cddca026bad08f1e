
/- Receive windows: the law's own helpers. -/
import Derived.Test.YtedbidepplmjdaaDoorV1
namespace Go.Proofs.YtedbidepplmjdaaDoor
open Go.RowKit
theorem grown_setCell (w : World) (a : Addr) (u : Value) : w.grownBy (w.setCell a u) (some a.block) :=
  ⟨rfl, rfl, rfl, by simp, fun k _ hk => heap_setCell_other w a k u (fun e => hk (by rw [e]))⟩
theorem Row.store {T : Type} {w : World} {lo : Nat} {e : TypeId} {sz : Nat} {enc : T → List Value} {A : Option Addr} {n c : Nat} {ts : List T} (h : Row w lo e sz enc A n c ts) (p : Addr) (u : Value) (ha : ∀ x, A = some x → p.block ≠ x.block) : Row (w.setCell p u) lo e sz enc A n c ts :=
  h.grown (grown_setCell w p u) (fun x hx he => ha x hx (Option.some.inj he))
theorem c_toSlotS (A : Option Addr) (n c : Nat) (ts : List Slot) (w : World) (hm : n ≤ 1048576) (h : Rd w A n 2 (ts.map Slot.cells)) :
    Calls Tryd.prog 17 #[.slice A n c] w fun e w' => (∃ A' c', e = .returned (.slice A' n c') ∧ Row w' w.heap.size 48 2 Slot.cells A' n c' ts) ∧ Bw w w' := by
  have hl := Lib.hid h.slotlen
  obtain ⟨i0, hi, hz0, hz1, hz2⟩ := info_parts infoSlot
  have hmk : ∀ W, (Instr.makeSlice 28 (.int .i64 (n : Int)) (.int .i64 (n : Int))).run Tryd.prog W = .ok (.slice (some ⟨W.heap.size, 0, none⟩) n n) (W.alloc (.cells (madeCells #[.bool false, .string ByteArray.empty] (n * 2)) 48)) := fun W => by
    have := run_make (P := Tryd.prog) W 28 48 i0 _ Tryd.underlying28 hi hz0 .i64 .i64 n n (by omega) (by omega) (by rw [hz2]; omega) (by omega)
    rw [hz1] at this
    exact this
  clear hi hz0 hz1 hz2
  go_enter Tryd.func17, Tryd.ntmps17
  go_wp2
  go_loopw [4] (fun i wr => ∃ k : Nat, k ≤ n ∧ i = .int .i64 k ∧ Row wr w.heap.size 48 2 Slot.cells (some ⟨w.heap.size, 0, none⟩) n n (mix ⟨false, ByteArray.empty⟩ n k ts) ∧ Bw w wr) (fun i _ => n - (intOf i).toNat)
  case atStart =>
    refine ⟨0, Nat.zero_le _, rfl, ⟨?_, by simp [mix]⟩, (Bw.refl _).alloc _⟩
    have := World.ownsRow_lit (base := w.heap.size) (e := 48) (size := 2) w (madeCells #[.bool false, .string ByteArray.empty] (n * 2)) n (Nat.le_refl _) (by unfold maxLen; omega) (size_madeCells _ _)
    have e1 := madeCells_flat #[.bool false, .string ByteArray.empty] (by simp) n
    have e2 : (#[Value.bool false, Value.string ByteArray.empty] : Array Value).size = 2 := rfl
    rw [e2] at e1
    rw [e1] at this
    rw [mix_zero, List.flatMap_replicate]
    exact this
  case round =>
    obtain ⟨k, hk, rfl, hrow, hbl⟩ := hrel
    by_cases hlt : k < n
    · obtain ⟨b, off, rfl, hb, hc⟩ := (h.keep hbl).slots (by omega)
      have ⟨h0, h1⟩ := hc k hlt
      clear hc
      go_wp2_with (go_at_call 32; refine (c_toSlot _ _ _).mono ?_; rintro e w1 ⟨rfl, hb1⟩; have hrow1 := hrow.keep hb1; obtain ⟨g, hg, hlo, hgl, hfz, hcc⟩ := hrow1.slots (by omega); obtain rfl : w.heap.size = g := (by simpa using hg); have ⟨q0, q1⟩ := hcc k hlt; clear hcc)
      go_roundw
      case rel =>
        have hs := hrow1.setN (t := slotAt ts k) (fun _ => rfl) hlt rfl
        refine ⟨k + 1, by omega, by go_num, ?_, (hbl.trans hb1).grown hs.2 (by simp)⟩
        rw [← mix_succ _ _ _ _ hl.out hlt]
        exact hs.1
      case measure => simp [intOf]; omega
    · go_wp2
      go_ret
      obtain rfl : k = n := by omega
      rw [mix_all _ _ _ hl.out] at hrow
      exact ⟨⟨_, _, rfl, hrow⟩, hbl⟩
theorem c_eqSlotS (A A' : Option Addr) (n c c' : Nat) (ts : List Slot) (w : World) (hm : n ≤ 9223372036854775807) (h : Rd w A n 2 (ts.map Slot.cells)) (h' : Rd w A' n 2 (ts.map Slot.cells)) :
    Calls Tryd.prog 20 #[.slice A n c, .slice A' n c'] w fun e w' => e = .returned (.bool true) ∧ Bw w w' := by
  go_enter Tryd.func20, Tryd.ntmps20
  go_wp2
  go_loopw [5] (fun i wr => ∃ k : Nat, k ≤ n ∧ i = .int .i64 k ∧ Bw w wr) (fun i _ => n - (intOf i).toNat)
  case atStart => exact ⟨0, Nat.zero_le _, rfl, Bw.refl _⟩
  case round =>
    obtain ⟨k, hk, rfl, hbl⟩ := hrel
    by_cases hlt : k < n
    · obtain ⟨b, off, rfl, hb, hc⟩ := (h.keep hbl).slots (by omega)
      obtain ⟨b', off', rfl, hb', hc'⟩ := (h'.keep hbl).slots (by omega)
      have ⟨h0, h1⟩ := hc k hlt
      have ⟨p0, p1⟩ := hc' k hlt
      clear hc hc'
      go_wp2
      (refine wp_region_ext (by kernel_rfl) (by kernel_rfl) ?_; (repeat (go_big_quiet_step ((exact Ext.calls (c_eqSlot _ _ _))))); (with_reducible refine wpQuiet_nil ?_); intro w2 hb2)
      go_wp2
      go_roundw
      case rel => exact ⟨k + 1, by omega, by go_num, hbl.trans hb2⟩
      case measure => simp [intOf]; omega
    · go_wp2
      go_ret
      exact ⟨rfl, hbl⟩
theorem c_szReceiveWindow (t : Int) (A : Option Addr) (n c : Nat) (ts : List Slot) (hf : fitL ts) (hm : n ≤ 9223372036854775807) (w : World) (h : Rd w A n 2 (ts.map Slot.cells)) : Calls Tryd.prog 5 #[.agg #[.int .i64 t, .slice A n c], .int .i64 1048576] w fun e w' => (∃ m : Int, e = .returned (.int .i64 m) ∧ m ≤ 1048576 ∧ (m < 0 ∨ n ≤ 1048576)) ∧ Bw w w' := by
  go_enter Tryd.func5, Tryd.ntmps5
  go_wp2_with (go_at_call 14; refine (c_szSlotS _ _ _ ts _ hm hf (h.keep (Bw.alloc (Bw.refl _) _))).mono ?_; rintro e w1 ⟨⟨m, rfl, hmx, hmm⟩, hb1⟩)
  all_goals
    go_ret
    exact ⟨⟨_, rfl, by omega, by omega⟩, Bw.trans (Bw.alloc (Bw.refl _) _) hb1⟩
set_option maxRecDepth 100000 in
theorem c_toReceiveWindow (t : Int) (A : Option Addr) (n c : Nat) (ts : List Slot) (w : World) (hm : n ≤ 1048576) (h : Rd w A n 2 (ts.map Slot.cells)) :
    Calls Tryd.prog 7 #[.agg #[.int .i64 t, .slice A n c]] w fun e w' => (∃ A' c', e = .returned (.agg #[.int .i64 t, .slice A' n c']) ∧ Row w' w.heap.size 48 2 Slot.cells A' n c' ts) ∧ Bw w w' := by
  go_enter Tryd.func7, Tryd.ntmps7
  go_wp2_with (go_at_call 17; refine (c_toSlotS _ _ _ ts _ hm (h.keep (Bw.alloc (Bw.alloc (Bw.alloc (Bw.refl _) _) _) _))).mono ?_; rintro e w1 ⟨⟨A1, c1, rfl, row1⟩, hb1⟩; have hr1 := hb1.rule; have hf1 := hb1.frz; have hs1 : w.heap.size + 3 ≤ w1.heap.size := (by have := hb1.size; simpa using this); have b10 := hb1.cellv (p := ⟨w.heap.size + 1, 0, none⟩) (v := .int .i64 0) (by go_simp); have b11 := hb1.cellv (p := ⟨w.heap.size + 1, 1, none⟩) (v := .slice none 0 0) (by go_simp); have b20 := hb1.cellv (p := ⟨w.heap.size + 2, 0, none⟩) (v := .int .i64 t) (by go_simp); have b21 := hb1.cellv (p := ⟨w.heap.size + 2, 1, none⟩) (v := .slice none 0 0) (by go_simp))
  have lt1 := row1.lt
  have ne1 : ∀ (k : Nat), k < w.heap.size + 3 → ∀ x, A1 = some x → k ≠ x.block := fun k hk x hx he => by have := (lt1 x hx).1; simp at this; omega
  have r1 := row1.store ⟨w.heap.size + 2, 1, none⟩ (.slice A1 n c1) (ne1 (w.heap.size + 2) (by omega))
  have r2 := r1.store ⟨w.heap.size + 1, 0, none⟩ (.int .i64 t) (ne1 (w.heap.size + 1) (by omega))
  have r3 := r2.store ⟨w.heap.size + 1, 1, none⟩ (.slice A1 n c1) (ne1 (w.heap.size + 1) (by omega))
  have hb : Bw w w1 := Bw.trans (by (repeat (first | with_reducible assumption | exact Bw.refl _ | (with_reducible refine Bw.setCell ?_ (by simp) _) | (with_reducible refine Bw.alloc ?_ _) | (with_reducible refine Bw.drew ?_) | (with_reducible refine Bw.drewN ?_ _)))) hb1
  have k4 := ((hb.setCell (p := ⟨w.heap.size + 2, 1, none⟩) (by simp) (.slice A1 n c1)).setCell (p := ⟨w.heap.size + 1, 0, none⟩) (by simp) (.int .i64 t)).setCell (p := ⟨w.heap.size + 1, 1, none⟩) (by simp) (.slice A1 n c1)
  exact bodyPost_ret (v := .agg #[.int .i64 t, .slice A1 n c1]) (by simp [results, Tryd.results7, go_sem, b10, b11, b20, b21]) rfl ⟨⟨_, _, rfl, r3.mono (by simp; omega)⟩, k4⟩
theorem c_eqReceiveWindow (t : Int) (A A' : Option Addr) (n c c' : Nat) (ts : List Slot) (w : World) (hm : n ≤ 9223372036854775807) (h : Rd w A n 2 (ts.map Slot.cells)) (h' : Rd w A' n 2 (ts.map Slot.cells)) :
    Calls Tryd.prog 9 #[.agg #[.int .i64 t, .slice A n c], .agg #[.int .i64 t, .slice A' n c']] w fun e w' => e = .returned (.bool true) ∧ Bw w w' := by
  go_enter Tryd.func9, Tryd.ntmps9
  go_wp2_with (go_at_call 20; refine (c_eqSlotS _ _ _ _ _ ts _ hm (h.keep (Bw.alloc (Bw.alloc (Bw.refl _) _) _)) (h'.keep (Bw.alloc (Bw.alloc (Bw.refl _) _) _))).mono ?_; rintro e w1 ⟨rfl, hb1⟩)
  go_ret
  exact ⟨rfl, Bw.trans (Bw.alloc (Bw.alloc (Bw.refl _) _) _) hb1⟩
end Go.Proofs.YtedbidepplmjdaaDoor
