
/- Send windows: the law's own helpers. -/
import Derived.Test.YtpjljbhodnlhmaaGreatDoorS3
namespace Go.Proofs.YtpjljbhodnlhmaaGreatDoor
open Go.RowKit
theorem c_szSendWindow (t z : Int) (A : Option Addr) (n c : Nat) (ss : List ByteArray) (hf : fitS ss) (hm : n ≤ 9223372036854775807) (w : World) (h : Rd w A n 1 (ss.map scell)) : Calls Tryz.prog 73 #[.agg #[.int .i64 t, .int .i64 z, .slice A n c], .int .i64 1048576] w fun e w' => (∃ m : Int, e = .returned (.int .i64 m) ∧ m ≤ 1048576 ∧ (m < 0 ∨ n ≤ 1048576)) ∧ Bw w w' := by
  go_enter Tryz.func73, Tryz.ntmps73
  go_wp2_with (go_at_call 111; refine (c_szStringS _ _ _ ss _ hm hf (h.keep (Bw.alloc (Bw.refl _) _))).mono ?_; rintro e w1 ⟨⟨m, rfl, hmx, hmm⟩, rfl⟩)
  all_goals
    go_ret
    exact ⟨⟨_, rfl, by omega, by omega⟩, by (repeat (first | with_reducible assumption | exact Bw.refl _ | (with_reducible refine Bw.setCell ?_ (by simp) _) | (with_reducible refine Bw.alloc ?_ _) | (with_reducible refine Bw.drew ?_) | (with_reducible refine Bw.drewN ?_ _)))⟩
set_option maxRecDepth 100000 in
theorem c_toSendWindow (t z : Int) (A : Option Addr) (n c : Nat) (ss : List ByteArray) (w : World) (hm : n ≤ 1048576) (h : Rd w A n 1 (ss.map scell)) :
    Calls Tryz.prog 79 #[.agg #[.int .i64 t, .int .i64 z, .slice A n c]] w fun e w' => (∃ A' c', e = .returned (.agg #[.int .i64 t, .int .i64 z, .slice A' n c']) ∧ Row w' w.heap.size 9 1 scell A' n c' ss) ∧ Bw w w' := by
  go_enter Tryz.func79, Tryz.ntmps79
  go_wp2_with (go_at_call 120; refine (c_toStringS _ _ _ ss _ hm (h.keep (Bw.alloc (Bw.alloc (Bw.alloc (Bw.refl _) _) _) _))).mono ?_; rintro e w1 ⟨⟨A1, c1, rfl, row1⟩, hb1⟩; have hr1 := hb1.rule; have hf1 := hb1.frz; have hs1 : w.heap.size + 3 ≤ w1.heap.size := (by have := hb1.size; simpa using this); have b10 := hb1.cellv (p := ⟨w.heap.size + 1, 0, none⟩) (v := .int .i64 0) (by go_simp); have b11 := hb1.cellv (p := ⟨w.heap.size + 1, 1, none⟩) (v := .int .i64 0) (by go_simp); have b12 := hb1.cellv (p := ⟨w.heap.size + 1, 2, none⟩) (v := .slice none 0 0) (by go_simp); have b20 := hb1.cellv (p := ⟨w.heap.size + 2, 0, none⟩) (v := .int .i64 t) (by go_simp); have b21 := hb1.cellv (p := ⟨w.heap.size + 2, 1, none⟩) (v := .int .i64 z) (by go_simp); have b22 := hb1.cellv (p := ⟨w.heap.size + 2, 2, none⟩) (v := .slice none 0 0) (by go_simp))
  have lt1 := row1.lt
  have ne1 : ∀ (k : Nat), k < w.heap.size + 3 → ∀ x, A1 = some x → k ≠ x.block := fun k hk x hx he => by have := (lt1 x hx).1; simp at this; omega
  have r1 := row1.store ⟨w.heap.size + 2, 2, none⟩ (.slice A1 n c1) (ne1 (w.heap.size + 2) (by omega))
  have r2 := r1.store ⟨w.heap.size + 1, 0, none⟩ (.int .i64 t) (ne1 (w.heap.size + 1) (by omega))
  have r3 := r2.store ⟨w.heap.size + 1, 1, none⟩ (.int .i64 z) (ne1 (w.heap.size + 1) (by omega))
  have r4 := r3.store ⟨w.heap.size + 1, 2, none⟩ (.slice A1 n c1) (ne1 (w.heap.size + 1) (by omega))
  have hb : Bw w w1 := Bw.trans (by (repeat (first | with_reducible assumption | exact Bw.refl _ | (with_reducible refine Bw.setCell ?_ (by simp) _) | (with_reducible refine Bw.alloc ?_ _) | (with_reducible refine Bw.drew ?_) | (with_reducible refine Bw.drewN ?_ _)))) hb1
  have k4 := (((hb.setCell (p := ⟨w.heap.size + 2, 2, none⟩) (by simp) (.slice A1 n c1)).setCell (p := ⟨w.heap.size + 1, 0, none⟩) (by simp) (.int .i64 t)).setCell (p := ⟨w.heap.size + 1, 1, none⟩) (by simp) (.int .i64 z)).setCell (p := ⟨w.heap.size + 1, 2, none⟩) (by simp) (.slice A1 n c1)
  exact bodyPost_ret (v := .agg #[.int .i64 t, .int .i64 z, .slice A1 n c1]) (by simp [results, Tryz.results79, go_sem, b10, b11, b12, b20, b21, b22]) rfl ⟨⟨_, _, rfl, r4.mono (by simp; omega)⟩, k4⟩
theorem c_eqSendWindow (t z : Int) (A A' : Option Addr) (n c c' : Nat) (ss : List ByteArray) (w : World) (hm : n ≤ 9223372036854775807) (h : Rd w A n 1 (ss.map scell)) (h' : Rd w A' n 1 (ss.map scell)) :
    Calls Tryz.prog 55 #[.agg #[.int .i64 t, .int .i64 z, .slice A n c], .agg #[.int .i64 t, .int .i64 z, .slice A' n c']] w fun e w' => e = .returned (.bool true) ∧ Bw w w' := by
  go_enter Tryz.func55, Tryz.ntmps55
  go_wp2_with (go_at_call 102; refine (c_eqStringS _ _ _ _ _ ss _ hm (h.keep (Bw.alloc (Bw.alloc (Bw.refl _) _) _)) (h'.keep (Bw.alloc (Bw.alloc (Bw.refl _) _) _))).mono ?_; rintro e w1 ⟨rfl, hb1⟩)
  go_ret
  exact ⟨rfl, Bw.trans (Bw.alloc (Bw.alloc (Bw.refl _) _) _) hb1⟩
end Go.Proofs.YtpjljbhodnlhmaaGreatDoor
