
/- Sources: a new one; its law. -/
import Derived.Test.YtpjljbhodnlhmaaGreatDoorT10
import Derived.Test.YtpjljbhodnlhmaaGreatDoorS8
namespace Go.Proofs.YtpjljbhodnlhmaaGreatDoor
open Go.RowKit
theorem fitS_nil : fitS [] := fun k hk => absurd hk (by simp)
def nsT (t z : Int) : Int := if srcB t z [] 0 0 [] = true then t else 0
def nsZ (t z : Int) : Int := if srcB t z [] 0 0 [] = true then z else 0
set_option maxRecDepth 100000 in
set_option maxHeartbeats 1000000 in
theorem c_sNewSource (t z : Int) (w : World) :
    Calls Tryz.prog 19 #[.int .i64 t, .int .i64 z] w fun e w' => e = .returned (.tuple #[.agg #[.int .i64 (nsT t z), .int .i64 (nsZ t z), .slice none 0 0, .int .i64 0, .int .i64 0, .slice none 0 0], .bool (srcB t z [] 0 0 [])]) ∧ Bw w w' := by
  generalize hg : srcB t z [] 0 0 [] = r
  have Hg := Lib.hid hg
  have HE := Lib.hid (show nsT t z = (if r = true then t else 0) ∧ nsZ t z = (if r = true then z else 0) by rw [nsT, nsZ, hg]; exact ⟨rfl, rfl⟩)
  clear hg
  rw [HE.out.1, HE.out.2]
  cases r
  · go_enter Tryz.func19, Tryz.ntmps19
    go_wp2_with (go_at_call 52; refine (c_l11Good t z none 0 0 [] fitS_nil 0 0 none 0 0 [] Hg.out _ (by omega) (by omega) (Rd.nil _ _ _) (Rd.nil _ _ _)).mono ?_; rintro e w1 ⟨rfl, hb1⟩; have hr1 := hb1.rule; have hf1 := hb1.frz; have hs1 : w.heap.size + 2 ≤ w1.heap.size := (by have := hb1.size; simpa using this); have fz1 : ∀ j, w1.frozen? ⟨w.heap.size, j, none⟩ = false := (fun j => (hb1.frz ⟨w.heap.size, j, none⟩ (by simp; try omega)).trans (by first | go_simp | simp [go_sem])); have b00 := hb1.cellv (p := ⟨w.heap.size, 0, none⟩) (v := .int .i64 0) (by go_simp); have b01 := hb1.cellv (p := ⟨w.heap.size, 1, none⟩) (v := .int .i64 0) (by go_simp); have b02 := hb1.cellv (p := ⟨w.heap.size, 2, none⟩) (v := .slice none 0 0) (by go_simp); have b03 := hb1.cellv (p := ⟨w.heap.size, 3, none⟩) (v := .int .i64 0) (by go_simp); have b04 := hb1.cellv (p := ⟨w.heap.size, 4, none⟩) (v := .int .i64 0) (by go_simp); have b05 := hb1.cellv (p := ⟨w.heap.size, 5, none⟩) (v := .slice none 0 0) (by go_simp); have b10 := hb1.cellv (p := ⟨w.heap.size + 1, 0, none⟩) (v := .int .i64 t) (by go_simp); have b11 := hb1.cellv (p := ⟨w.heap.size + 1, 1, none⟩) (v := .int .i64 z) (by go_simp); have b12 := hb1.cellv (p := ⟨w.heap.size + 1, 2, none⟩) (v := .slice none 0 0) (by go_simp); have b13 := hb1.cellv (p := ⟨w.heap.size + 1, 3, none⟩) (v := .int .i64 0) (by go_simp); have b14 := hb1.cellv (p := ⟨w.heap.size + 1, 4, none⟩) (v := .int .i64 0) (by go_simp); have b15 := hb1.cellv (p := ⟨w.heap.size + 1, 5, none⟩) (v := .slice none 0 0) (by go_simp))
    have hb : Bw w w1 := Bw.trans (by (repeat (first | with_reducible assumption | exact Bw.refl _ | (with_reducible refine Bw.setCell ?_ (by simp) _) | (with_reducible refine Bw.alloc ?_ _) | (with_reducible refine Bw.drew ?_) | (with_reducible refine Bw.drewN ?_ _)))) hb1
    exact bodyPost_ret (v := .tuple #[.agg #[.int .i64 0, .int .i64 0, .slice none 0 0, .int .i64 0, .int .i64 0, .slice none 0 0], .bool false]) (by simp [results, Tryz.results19, go_sem, b00, b01, b02, b03, b04, b05]) rfl ⟨rfl, ((((((hb.setCell (p := ⟨w.heap.size, 0, none⟩) (Nat.le_refl _) (.int .i64 0)).setCell (p := ⟨w.heap.size, 1, none⟩) (Nat.le_refl _) (.int .i64 0)).setCell (p := ⟨w.heap.size, 2, none⟩) (Nat.le_refl _) (.slice none 0 0)).setCell (p := ⟨w.heap.size, 3, none⟩) (Nat.le_refl _) (.int .i64 0)).setCell (p := ⟨w.heap.size, 4, none⟩) (Nat.le_refl _) (.int .i64 0)).setCell (p := ⟨w.heap.size, 5, none⟩) (Nat.le_refl _) (.slice none 0 0))⟩
  · go_enter Tryz.func19, Tryz.ntmps19
    go_wp2_with (go_at_call 52; refine (c_l11Good t z none 0 0 [] fitS_nil 0 0 none 0 0 [] Hg.out _ (by omega) (by omega) (Rd.nil _ _ _) (Rd.nil _ _ _)).mono ?_; rintro e w1 ⟨rfl, hb1⟩; have hr1 := hb1.rule; have hf1 := hb1.frz; have hs1 : w.heap.size + 2 ≤ w1.heap.size := (by have := hb1.size; simpa using this); have fz1 : ∀ j, w1.frozen? ⟨w.heap.size, j, none⟩ = false := (fun j => (hb1.frz ⟨w.heap.size, j, none⟩ (by simp; try omega)).trans (by first | go_simp | simp [go_sem])); have b00 := hb1.cellv (p := ⟨w.heap.size, 0, none⟩) (v := .int .i64 0) (by go_simp); have b01 := hb1.cellv (p := ⟨w.heap.size, 1, none⟩) (v := .int .i64 0) (by go_simp); have b02 := hb1.cellv (p := ⟨w.heap.size, 2, none⟩) (v := .slice none 0 0) (by go_simp); have b03 := hb1.cellv (p := ⟨w.heap.size, 3, none⟩) (v := .int .i64 0) (by go_simp); have b04 := hb1.cellv (p := ⟨w.heap.size, 4, none⟩) (v := .int .i64 0) (by go_simp); have b05 := hb1.cellv (p := ⟨w.heap.size, 5, none⟩) (v := .slice none 0 0) (by go_simp); have b10 := hb1.cellv (p := ⟨w.heap.size + 1, 0, none⟩) (v := .int .i64 t) (by go_simp); have b11 := hb1.cellv (p := ⟨w.heap.size + 1, 1, none⟩) (v := .int .i64 z) (by go_simp); have b12 := hb1.cellv (p := ⟨w.heap.size + 1, 2, none⟩) (v := .slice none 0 0) (by go_simp); have b13 := hb1.cellv (p := ⟨w.heap.size + 1, 3, none⟩) (v := .int .i64 0) (by go_simp); have b14 := hb1.cellv (p := ⟨w.heap.size + 1, 4, none⟩) (v := .int .i64 0) (by go_simp); have b15 := hb1.cellv (p := ⟨w.heap.size + 1, 5, none⟩) (v := .slice none 0 0) (by go_simp))
    have hb : Bw w w1 := Bw.trans (by (repeat (first | with_reducible assumption | exact Bw.refl _ | (with_reducible refine Bw.setCell ?_ (by simp) _) | (with_reducible refine Bw.alloc ?_ _) | (with_reducible refine Bw.drew ?_) | (with_reducible refine Bw.drewN ?_ _)))) hb1
    exact bodyPost_ret (v := .tuple #[.agg #[.int .i64 t, .int .i64 z, .slice none 0 0, .int .i64 0, .int .i64 0, .slice none 0 0], .bool true]) (by simp [results, Tryz.results19, go_sem, b00, b01, b02, b03, b04, b05]) rfl ⟨rfl, ((((((hb.setCell (p := ⟨w.heap.size, 0, none⟩) (Nat.le_refl _) (.int .i64 t)).setCell (p := ⟨w.heap.size, 1, none⟩) (Nat.le_refl _) (.int .i64 z)).setCell (p := ⟨w.heap.size, 2, none⟩) (Nat.le_refl _) (.slice none 0 0)).setCell (p := ⟨w.heap.size, 3, none⟩) (Nat.le_refl _) (.int .i64 0)).setCell (p := ⟨w.heap.size, 4, none⟩) (Nat.le_refl _) (.int .i64 0)).setCell (p := ⟨w.heap.size, 5, none⟩) (Nat.le_refl _) (.slice none 0 0))⟩
set_option maxRecDepth 100000 in
set_option maxHeartbeats 1000000 in
theorem c_iNewSource (t z : Int) (w : World) :
    Calls Tryz.prog 23 #[.int .i64 t, .int .i64 z] w fun e w' => e = .returned (.tuple #[.agg #[.int .i64 (nsT t z), .int .i64 (nsZ t z), .slice none 0 0, .int .i64 0, .int .i64 0, .slice none 0 0], .bool (srcB t z [] 0 0 [])]) ∧ Bw w w' := by
  generalize hg : srcB t z [] 0 0 [] = r
  have Hg := Lib.hid hg
  have HE := Lib.hid (show nsT t z = (if r = true then t else 0) ∧ nsZ t z = (if r = true then z else 0) by rw [nsT, nsZ, hg]; exact ⟨rfl, rfl⟩)
  clear hg
  rw [HE.out.1, HE.out.2]
  cases r
  · go_enter Tryz.func23, Tryz.ntmps23
    go_wp2_with (go_at_call 50; refine (c_IsValidSource t z none 0 0 [] fitS_nil 0 0 none 0 0 [] Hg.out _ (by omega) (by omega) (Rd.nil _ _ _) (Rd.nil _ _ _)).mono ?_; rintro e w1 ⟨rfl, hb1⟩; have hr1 := hb1.rule; have hf1 := hb1.frz; have hs1 : w.heap.size + 2 ≤ w1.heap.size := (by have := hb1.size; simpa using this); have fz1 : ∀ j, w1.frozen? ⟨w.heap.size, j, none⟩ = false := (fun j => (hb1.frz ⟨w.heap.size, j, none⟩ (by simp; try omega)).trans (by first | go_simp | simp [go_sem])); have b00 := hb1.cellv (p := ⟨w.heap.size, 0, none⟩) (v := .int .i64 0) (by go_simp); have b01 := hb1.cellv (p := ⟨w.heap.size, 1, none⟩) (v := .int .i64 0) (by go_simp); have b02 := hb1.cellv (p := ⟨w.heap.size, 2, none⟩) (v := .slice none 0 0) (by go_simp); have b03 := hb1.cellv (p := ⟨w.heap.size, 3, none⟩) (v := .int .i64 0) (by go_simp); have b04 := hb1.cellv (p := ⟨w.heap.size, 4, none⟩) (v := .int .i64 0) (by go_simp); have b05 := hb1.cellv (p := ⟨w.heap.size, 5, none⟩) (v := .slice none 0 0) (by go_simp); have b10 := hb1.cellv (p := ⟨w.heap.size + 1, 0, none⟩) (v := .int .i64 t) (by go_simp); have b11 := hb1.cellv (p := ⟨w.heap.size + 1, 1, none⟩) (v := .int .i64 z) (by go_simp); have b12 := hb1.cellv (p := ⟨w.heap.size + 1, 2, none⟩) (v := .slice none 0 0) (by go_simp); have b13 := hb1.cellv (p := ⟨w.heap.size + 1, 3, none⟩) (v := .int .i64 0) (by go_simp); have b14 := hb1.cellv (p := ⟨w.heap.size + 1, 4, none⟩) (v := .int .i64 0) (by go_simp); have b15 := hb1.cellv (p := ⟨w.heap.size + 1, 5, none⟩) (v := .slice none 0 0) (by go_simp))
    have hb : Bw w w1 := Bw.trans (by (repeat (first | with_reducible assumption | exact Bw.refl _ | (with_reducible refine Bw.setCell ?_ (by simp) _) | (with_reducible refine Bw.alloc ?_ _) | (with_reducible refine Bw.drew ?_) | (with_reducible refine Bw.drewN ?_ _)))) hb1
    exact bodyPost_ret (v := .tuple #[.agg #[.int .i64 0, .int .i64 0, .slice none 0 0, .int .i64 0, .int .i64 0, .slice none 0 0], .bool false]) (by simp [results, Tryz.results23, go_sem, b00, b01, b02, b03, b04, b05]) rfl ⟨rfl, ((((((hb.setCell (p := ⟨w.heap.size, 0, none⟩) (Nat.le_refl _) (.int .i64 0)).setCell (p := ⟨w.heap.size, 1, none⟩) (Nat.le_refl _) (.int .i64 0)).setCell (p := ⟨w.heap.size, 2, none⟩) (Nat.le_refl _) (.slice none 0 0)).setCell (p := ⟨w.heap.size, 3, none⟩) (Nat.le_refl _) (.int .i64 0)).setCell (p := ⟨w.heap.size, 4, none⟩) (Nat.le_refl _) (.int .i64 0)).setCell (p := ⟨w.heap.size, 5, none⟩) (Nat.le_refl _) (.slice none 0 0))⟩
  · go_enter Tryz.func23, Tryz.ntmps23
    go_wp2_with (go_at_call 50; refine (c_IsValidSource t z none 0 0 [] fitS_nil 0 0 none 0 0 [] Hg.out _ (by omega) (by omega) (Rd.nil _ _ _) (Rd.nil _ _ _)).mono ?_; rintro e w1 ⟨rfl, hb1⟩; have hr1 := hb1.rule; have hf1 := hb1.frz; have hs1 : w.heap.size + 2 ≤ w1.heap.size := (by have := hb1.size; simpa using this); have fz1 : ∀ j, w1.frozen? ⟨w.heap.size, j, none⟩ = false := (fun j => (hb1.frz ⟨w.heap.size, j, none⟩ (by simp; try omega)).trans (by first | go_simp | simp [go_sem])); have b00 := hb1.cellv (p := ⟨w.heap.size, 0, none⟩) (v := .int .i64 0) (by go_simp); have b01 := hb1.cellv (p := ⟨w.heap.size, 1, none⟩) (v := .int .i64 0) (by go_simp); have b02 := hb1.cellv (p := ⟨w.heap.size, 2, none⟩) (v := .slice none 0 0) (by go_simp); have b03 := hb1.cellv (p := ⟨w.heap.size, 3, none⟩) (v := .int .i64 0) (by go_simp); have b04 := hb1.cellv (p := ⟨w.heap.size, 4, none⟩) (v := .int .i64 0) (by go_simp); have b05 := hb1.cellv (p := ⟨w.heap.size, 5, none⟩) (v := .slice none 0 0) (by go_simp); have b10 := hb1.cellv (p := ⟨w.heap.size + 1, 0, none⟩) (v := .int .i64 t) (by go_simp); have b11 := hb1.cellv (p := ⟨w.heap.size + 1, 1, none⟩) (v := .int .i64 z) (by go_simp); have b12 := hb1.cellv (p := ⟨w.heap.size + 1, 2, none⟩) (v := .slice none 0 0) (by go_simp); have b13 := hb1.cellv (p := ⟨w.heap.size + 1, 3, none⟩) (v := .int .i64 0) (by go_simp); have b14 := hb1.cellv (p := ⟨w.heap.size + 1, 4, none⟩) (v := .int .i64 0) (by go_simp); have b15 := hb1.cellv (p := ⟨w.heap.size + 1, 5, none⟩) (v := .slice none 0 0) (by go_simp))
    have hb : Bw w w1 := Bw.trans (by (repeat (first | with_reducible assumption | exact Bw.refl _ | (with_reducible refine Bw.setCell ?_ (by simp) _) | (with_reducible refine Bw.alloc ?_ _) | (with_reducible refine Bw.drew ?_) | (with_reducible refine Bw.drewN ?_ _)))) hb1
    exact bodyPost_ret (v := .tuple #[.agg #[.int .i64 t, .int .i64 z, .slice none 0 0, .int .i64 0, .int .i64 0, .slice none 0 0], .bool true]) (by simp [results, Tryz.results23, go_sem, b00, b01, b02, b03, b04, b05]) rfl ⟨rfl, ((((((hb.setCell (p := ⟨w.heap.size, 0, none⟩) (Nat.le_refl _) (.int .i64 t)).setCell (p := ⟨w.heap.size, 1, none⟩) (Nat.le_refl _) (.int .i64 z)).setCell (p := ⟨w.heap.size, 2, none⟩) (Nat.le_refl _) (.slice none 0 0)).setCell (p := ⟨w.heap.size, 3, none⟩) (Nat.le_refl _) (.int .i64 0)).setCell (p := ⟨w.heap.size, 4, none⟩) (Nat.le_refl _) (.int .i64 0)).setCell (p := ⟨w.heap.size, 5, none⟩) (Nat.le_refl _) (.slice none 0 0))⟩
theorem c_held0 (k0 : Int) (w : World) : Calls Tryz.prog 110 #[.slice none 0 0, .int .i64 k0] w fun e w' => e = .returned (.int .i64 k0) ∧ w = w' := by
  go_enter Tryz.func110, Tryz.ntmps110
  go_wp2
  go_loop [1, 5] (fun kv i => kv = .int .i64 k0 ∧ i = .int .i64 0) (fun _ _ => 0)
  case atStart => exact ⟨rfl, rfl⟩
  case round =>
    obtain ⟨rfl, rfl⟩ := hrel
    go_wp2
    go_ret
    exact ⟨rfl, rfl⟩
theorem c_heldSW0 (t z : Int) (w : World) : Calls Tryz.prog 67 #[.agg #[.int .i64 t, .int .i64 z, .slice none 0 0], .int .i64 1] w fun e w' => e = .returned (.int .i64 1) ∧ Bw w w' := by
  go_enter Tryz.func67, Tryz.ntmps67
  go_wp2_with (go_at_call 110; refine (c_held0 _ _).mono ?_; rintro e w1 ⟨rfl, rfl⟩)
  go_ret
  exact ⟨rfl, by (repeat (first | with_reducible assumption | exact Bw.refl _ | (with_reducible refine Bw.setCell ?_ (by simp) _) | (with_reducible refine Bw.alloc ?_ _) | (with_reducible refine Bw.drew ?_) | (with_reducible refine Bw.drewN ?_ _)))⟩
theorem c_markSource0 (t z : Int) (w : World) : Calls Tryz.prog 32 #[.agg #[.int .i64 t, .int .i64 z, .slice none 0 0, .int .i64 0, .int .i64 0, .slice none 0 0], .int .i64 1] w fun e w' => e = .returned (.int .i64 1) ∧ Bw w w' := by
  have hbx : Bw w (w.alloc (.cells #[.int .i64 t, .int .i64 z, .slice none 0 0, .int .i64 0, .int .i64 0, .slice none 0 0] 32)) := Bw.alloc (Bw.refl _) _
  go_enter Tryz.func32, Tryz.ntmps32
  go_wp2_with (go_at_call 60; refine (c_markSendWindow t z none 0 0 [] 0 _ (by omega) (Row.nil _ _ _ _ _)).mono ?_; rintro e w1 ⟨rfl, hg1⟩; have hb1 := Bw.ofRow (Bw.refl _) hg1 (fun x hx => by cases hx); have b5 := hb1.cellv (p := ⟨w.heap.size, 5, none⟩) (v := .slice none 0 0) (by go_simp))
  refine (c_markHoldS none 0 0 [] 1 0 _ (by omega) (by omega) (by omega) (Row.nil _ _ _ _ _)).mono ?_
  rintro e w2 ⟨rfl, _, hg2⟩
  have hb2 := Bw.ofRow (Bw.refl _) hg2 (fun x hx => by cases hx)
  go_wp2_with fail
  go_ret
  exact ⟨rfl, (hbx.trans hb1).trans hb2⟩
theorem c_heldSource0 (t z : Int) (w : World) : Calls Tryz.prog 37 #[.agg #[.int .i64 t, .int .i64 z, .slice none 0 0, .int .i64 0, .int .i64 0, .slice none 0 0], .int .i64 1] w fun e w' => e = .returned (.int .i64 1) ∧ Bw w w' := by
  have hbx : Bw w (w.alloc (.cells #[.int .i64 t, .int .i64 z, .slice none 0 0, .int .i64 0, .int .i64 0, .slice none 0 0] 32)) := Bw.alloc (Bw.refl _) _
  go_enter Tryz.func37, Tryz.ntmps37
  go_wp2_with (go_at_call 67; refine (c_heldSW0 t z _).mono ?_; rintro e w1 ⟨rfl, hb1⟩; have b5 := hb1.cellv (p := ⟨w.heap.size, 5, none⟩) (v := .slice none 0 0) (by go_simp))
  refine (c_heldHoldS none 0 0 1 _ (by omega) (by omega) (by omega) (Rd.nil _ _ _)).mono ?_
  rintro e w2 ⟨rfl, rfl⟩
  go_wp2_with fail
  go_ret
  exact ⟨rfl, hbx.trans hb1⟩
end Go.Proofs.YtpjljbhodnlhmaaGreatDoor
