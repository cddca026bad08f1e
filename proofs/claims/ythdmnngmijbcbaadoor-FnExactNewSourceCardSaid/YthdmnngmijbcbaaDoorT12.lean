
/- Sources: a new one; its law. -/
import Derived.Test.YthdmnngmijbcbaaDoorT10
import Derived.Test.YthdmnngmijbcbaaDoorS8
namespace Go.Proofs.YthdmnngmijbcbaaDoor
open Go.RowKit
theorem fitS_nil : fitS [] := fun k hk => absurd hk (by simp)
def nsT (t z : Int) : Int := if srcB t z [] 0 0 [] = true then t else 0
def nsZ (t z : Int) : Int := if srcB t z [] 0 0 [] = true then z else 0
set_option maxRecDepth 100000 in
set_option maxHeartbeats 1000000 in
theorem c_sNewSource (t z : Int) (w : World) :
    Calls Tryd.prog 42 #[.int .i64 t, .int .i64 z] w fun e w' => e = .returned (.tuple #[.agg #[.int .i64 (nsT t z), .int .i64 (nsZ t z), .slice none 0 0, .int .i64 0, .int .i64 0, .slice none 0 0], .bool (srcB t z [] 0 0 [])]) ∧ Bw w w' := by
  generalize hg : srcB t z [] 0 0 [] = r
  have Hg := Lib.hid hg
  have HE := Lib.hid (show nsT t z = (if r = true then t else 0) ∧ nsZ t z = (if r = true then z else 0) by rw [nsT, nsZ, hg]; exact ⟨rfl, rfl⟩)
  clear hg
  rw [HE.out.1, HE.out.2]
  cases r
  · go_enter Tryd.func42, Tryd.ntmps42
    go_wp2_with (go_at_call 70; refine (c_l11Good t z none 0 0 [] fitS_nil 0 0 none 0 0 [] Hg.out _ (by omega) (by omega) (Rd.nil _ _ _) (Rd.nil _ _ _)).mono ?_; rintro e w1 ⟨rfl, hb1⟩; have hr1 := hb1.rule; have hf1 := hb1.frz; have hs1 : w.heap.size + 2 ≤ w1.heap.size := (by have := hb1.size; simpa using this); have fz1 : ∀ j, w1.frozen? ⟨w.heap.size, j, none⟩ = false := (fun j => (hb1.frz ⟨w.heap.size, j, none⟩ (by simp; try omega)).trans (by first | go_simp | simp [go_sem])); have b00 := hb1.cellv (p := ⟨w.heap.size, 0, none⟩) (v := .int .i64 0) (by go_simp); have b01 := hb1.cellv (p := ⟨w.heap.size, 1, none⟩) (v := .int .i64 0) (by go_simp); have b02 := hb1.cellv (p := ⟨w.heap.size, 2, none⟩) (v := .slice none 0 0) (by go_simp); have b03 := hb1.cellv (p := ⟨w.heap.size, 3, none⟩) (v := .int .i64 0) (by go_simp); have b04 := hb1.cellv (p := ⟨w.heap.size, 4, none⟩) (v := .int .i64 0) (by go_simp); have b05 := hb1.cellv (p := ⟨w.heap.size, 5, none⟩) (v := .slice none 0 0) (by go_simp); have b10 := hb1.cellv (p := ⟨w.heap.size + 1, 0, none⟩) (v := .int .i64 t) (by go_simp); have b11 := hb1.cellv (p := ⟨w.heap.size + 1, 1, none⟩) (v := .int .i64 z) (by go_simp); have b12 := hb1.cellv (p := ⟨w.heap.size + 1, 2, none⟩) (v := .slice none 0 0) (by go_simp); have b13 := hb1.cellv (p := ⟨w.heap.size + 1, 3, none⟩) (v := .int .i64 0) (by go_simp); have b14 := hb1.cellv (p := ⟨w.heap.size + 1, 4, none⟩) (v := .int .i64 0) (by go_simp); have b15 := hb1.cellv (p := ⟨w.heap.size + 1, 5, none⟩) (v := .slice none 0 0) (by go_simp))
    have hb : Bw w w1 := Bw.trans (by (repeat (first | with_reducible assumption | exact Bw.refl _ | (with_reducible refine Bw.setCell ?_ (by simp) _) | (with_reducible refine Bw.alloc ?_ _) | (with_reducible refine Bw.drew ?_) | (with_reducible refine Bw.drewN ?_ _)))) hb1
    exact bodyPost_ret (v := .tuple #[.agg #[.int .i64 0, .int .i64 0, .slice none 0 0, .int .i64 0, .int .i64 0, .slice none 0 0], .bool false]) (by simp [results, Tryd.results42, go_sem, b00, b01, b02, b03, b04, b05]) rfl ⟨rfl, ((((((hb.setCell (p := ⟨w.heap.size, 0, none⟩) (Nat.le_refl _) (.int .i64 0)).setCell (p := ⟨w.heap.size, 1, none⟩) (Nat.le_refl _) (.int .i64 0)).setCell (p := ⟨w.heap.size, 2, none⟩) (Nat.le_refl _) (.slice none 0 0)).setCell (p := ⟨w.heap.size, 3, none⟩) (Nat.le_refl _) (.int .i64 0)).setCell (p := ⟨w.heap.size, 4, none⟩) (Nat.le_refl _) (.int .i64 0)).setCell (p := ⟨w.heap.size, 5, none⟩) (Nat.le_refl _) (.slice none 0 0))⟩
  · go_enter Tryd.func42, Tryd.ntmps42
    go_wp2_with (go_at_call 70; refine (c_l11Good t z none 0 0 [] fitS_nil 0 0 none 0 0 [] Hg.out _ (by omega) (by omega) (Rd.nil _ _ _) (Rd.nil _ _ _)).mono ?_; rintro e w1 ⟨rfl, hb1⟩; have hr1 := hb1.rule; have hf1 := hb1.frz; have hs1 : w.heap.size + 2 ≤ w1.heap.size := (by have := hb1.size; simpa using this); have fz1 : ∀ j, w1.frozen? ⟨w.heap.size, j, none⟩ = false := (fun j => (hb1.frz ⟨w.heap.size, j, none⟩ (by simp; try omega)).trans (by first | go_simp | simp [go_sem])); have b00 := hb1.cellv (p := ⟨w.heap.size, 0, none⟩) (v := .int .i64 0) (by go_simp); have b01 := hb1.cellv (p := ⟨w.heap.size, 1, none⟩) (v := .int .i64 0) (by go_simp); have b02 := hb1.cellv (p := ⟨w.heap.size, 2, none⟩) (v := .slice none 0 0) (by go_simp); have b03 := hb1.cellv (p := ⟨w.heap.size, 3, none⟩) (v := .int .i64 0) (by go_simp); have b04 := hb1.cellv (p := ⟨w.heap.size, 4, none⟩) (v := .int .i64 0) (by go_simp); have b05 := hb1.cellv (p := ⟨w.heap.size, 5, none⟩) (v := .slice none 0 0) (by go_simp); have b10 := hb1.cellv (p := ⟨w.heap.size + 1, 0, none⟩) (v := .int .i64 t) (by go_simp); have b11 := hb1.cellv (p := ⟨w.heap.size + 1, 1, none⟩) (v := .int .i64 z) (by go_simp); have b12 := hb1.cellv (p := ⟨w.heap.size + 1, 2, none⟩) (v := .slice none 0 0) (by go_simp); have b13 := hb1.cellv (p := ⟨w.heap.size + 1, 3, none⟩) (v := .int .i64 0) (by go_simp); have b14 := hb1.cellv (p := ⟨w.heap.size + 1, 4, none⟩) (v := .int .i64 0) (by go_simp); have b15 := hb1.cellv (p := ⟨w.heap.size + 1, 5, none⟩) (v := .slice none 0 0) (by go_simp))
    have hb : Bw w w1 := Bw.trans (by (repeat (first | with_reducible assumption | exact Bw.refl _ | (with_reducible refine Bw.setCell ?_ (by simp) _) | (with_reducible refine Bw.alloc ?_ _) | (with_reducible refine Bw.drew ?_) | (with_reducible refine Bw.drewN ?_ _)))) hb1
    exact bodyPost_ret (v := .tuple #[.agg #[.int .i64 t, .int .i64 z, .slice none 0 0, .int .i64 0, .int .i64 0, .slice none 0 0], .bool true]) (by simp [results, Tryd.results42, go_sem, b00, b01, b02, b03, b04, b05]) rfl ⟨rfl, ((((((hb.setCell (p := ⟨w.heap.size, 0, none⟩) (Nat.le_refl _) (.int .i64 t)).setCell (p := ⟨w.heap.size, 1, none⟩) (Nat.le_refl _) (.int .i64 z)).setCell (p := ⟨w.heap.size, 2, none⟩) (Nat.le_refl _) (.slice none 0 0)).setCell (p := ⟨w.heap.size, 3, none⟩) (Nat.le_refl _) (.int .i64 0)).setCell (p := ⟨w.heap.size, 4, none⟩) (Nat.le_refl _) (.int .i64 0)).setCell (p := ⟨w.heap.size, 5, none⟩) (Nat.le_refl _) (.slice none 0 0))⟩
set_option maxRecDepth 100000 in
set_option maxHeartbeats 1000000 in
theorem c_iNewSource (t z : Int) (w : World) :
    Calls Tryd.prog 43 #[.int .i64 t, .int .i64 z] w fun e w' => e = .returned (.tuple #[.agg #[.int .i64 (nsT t z), .int .i64 (nsZ t z), .slice none 0 0, .int .i64 0, .int .i64 0, .slice none 0 0], .bool (srcB t z [] 0 0 [])]) ∧ Bw w w' := by
  generalize hg : srcB t z [] 0 0 [] = r
  have Hg := Lib.hid hg
  have HE := Lib.hid (show nsT t z = (if r = true then t else 0) ∧ nsZ t z = (if r = true then z else 0) by rw [nsT, nsZ, hg]; exact ⟨rfl, rfl⟩)
  clear hg
  rw [HE.out.1, HE.out.2]
  cases r
  · go_enter Tryd.func43, Tryd.ntmps43
    go_wp2_with (go_at_call 38; refine (c_IsValidSource t z none 0 0 [] fitS_nil 0 0 none 0 0 [] Hg.out _ (by omega) (by omega) (Rd.nil _ _ _) (Rd.nil _ _ _)).mono ?_; rintro e w1 ⟨rfl, hb1⟩; have hr1 := hb1.rule; have hf1 := hb1.frz; have hs1 : w.heap.size + 2 ≤ w1.heap.size := (by have := hb1.size; simpa using this); have fz1 : ∀ j, w1.frozen? ⟨w.heap.size, j, none⟩ = false := (fun j => (hb1.frz ⟨w.heap.size, j, none⟩ (by simp; try omega)).trans (by first | go_simp | simp [go_sem])); have b00 := hb1.cellv (p := ⟨w.heap.size, 0, none⟩) (v := .int .i64 0) (by go_simp); have b01 := hb1.cellv (p := ⟨w.heap.size, 1, none⟩) (v := .int .i64 0) (by go_simp); have b02 := hb1.cellv (p := ⟨w.heap.size, 2, none⟩) (v := .slice none 0 0) (by go_simp); have b03 := hb1.cellv (p := ⟨w.heap.size, 3, none⟩) (v := .int .i64 0) (by go_simp); have b04 := hb1.cellv (p := ⟨w.heap.size, 4, none⟩) (v := .int .i64 0) (by go_simp); have b05 := hb1.cellv (p := ⟨w.heap.size, 5, none⟩) (v := .slice none 0 0) (by go_simp); have b10 := hb1.cellv (p := ⟨w.heap.size + 1, 0, none⟩) (v := .int .i64 t) (by go_simp); have b11 := hb1.cellv (p := ⟨w.heap.size + 1, 1, none⟩) (v := .int .i64 z) (by go_simp); have b12 := hb1.cellv (p := ⟨w.heap.size + 1, 2, none⟩) (v := .slice none 0 0) (by go_simp); have b13 := hb1.cellv (p := ⟨w.heap.size + 1, 3, none⟩) (v := .int .i64 0) (by go_simp); have b14 := hb1.cellv (p := ⟨w.heap.size + 1, 4, none⟩) (v := .int .i64 0) (by go_simp); have b15 := hb1.cellv (p := ⟨w.heap.size + 1, 5, none⟩) (v := .slice none 0 0) (by go_simp))
    have hb : Bw w w1 := Bw.trans (by (repeat (first | with_reducible assumption | exact Bw.refl _ | (with_reducible refine Bw.setCell ?_ (by simp) _) | (with_reducible refine Bw.alloc ?_ _) | (with_reducible refine Bw.drew ?_) | (with_reducible refine Bw.drewN ?_ _)))) hb1
    exact bodyPost_ret (v := .tuple #[.agg #[.int .i64 0, .int .i64 0, .slice none 0 0, .int .i64 0, .int .i64 0, .slice none 0 0], .bool false]) (by simp [results, Tryd.results43, go_sem, b00, b01, b02, b03, b04, b05]) rfl ⟨rfl, ((((((hb.setCell (p := ⟨w.heap.size, 0, none⟩) (Nat.le_refl _) (.int .i64 0)).setCell (p := ⟨w.heap.size, 1, none⟩) (Nat.le_refl _) (.int .i64 0)).setCell (p := ⟨w.heap.size, 2, none⟩) (Nat.le_refl _) (.slice none 0 0)).setCell (p := ⟨w.heap.size, 3, none⟩) (Nat.le_refl _) (.int .i64 0)).setCell (p := ⟨w.heap.size, 4, none⟩) (Nat.le_refl _) (.int .i64 0)).setCell (p := ⟨w.heap.size, 5, none⟩) (Nat.le_refl _) (.slice none 0 0))⟩
  · go_enter Tryd.func43, Tryd.ntmps43
    go_wp2_with (go_at_call 38; refine (c_IsValidSource t z none 0 0 [] fitS_nil 0 0 none 0 0 [] Hg.out _ (by omega) (by omega) (Rd.nil _ _ _) (Rd.nil _ _ _)).mono ?_; rintro e w1 ⟨rfl, hb1⟩; have hr1 := hb1.rule; have hf1 := hb1.frz; have hs1 : w.heap.size + 2 ≤ w1.heap.size := (by have := hb1.size; simpa using this); have fz1 : ∀ j, w1.frozen? ⟨w.heap.size, j, none⟩ = false := (fun j => (hb1.frz ⟨w.heap.size, j, none⟩ (by simp; try omega)).trans (by first | go_simp | simp [go_sem])); have b00 := hb1.cellv (p := ⟨w.heap.size, 0, none⟩) (v := .int .i64 0) (by go_simp); have b01 := hb1.cellv (p := ⟨w.heap.size, 1, none⟩) (v := .int .i64 0) (by go_simp); have b02 := hb1.cellv (p := ⟨w.heap.size, 2, none⟩) (v := .slice none 0 0) (by go_simp); have b03 := hb1.cellv (p := ⟨w.heap.size, 3, none⟩) (v := .int .i64 0) (by go_simp); have b04 := hb1.cellv (p := ⟨w.heap.size, 4, none⟩) (v := .int .i64 0) (by go_simp); have b05 := hb1.cellv (p := ⟨w.heap.size, 5, none⟩) (v := .slice none 0 0) (by go_simp); have b10 := hb1.cellv (p := ⟨w.heap.size + 1, 0, none⟩) (v := .int .i64 t) (by go_simp); have b11 := hb1.cellv (p := ⟨w.heap.size + 1, 1, none⟩) (v := .int .i64 z) (by go_simp); have b12 := hb1.cellv (p := ⟨w.heap.size + 1, 2, none⟩) (v := .slice none 0 0) (by go_simp); have b13 := hb1.cellv (p := ⟨w.heap.size + 1, 3, none⟩) (v := .int .i64 0) (by go_simp); have b14 := hb1.cellv (p := ⟨w.heap.size + 1, 4, none⟩) (v := .int .i64 0) (by go_simp); have b15 := hb1.cellv (p := ⟨w.heap.size + 1, 5, none⟩) (v := .slice none 0 0) (by go_simp))
    have hb : Bw w w1 := Bw.trans (by (repeat (first | with_reducible assumption | exact Bw.refl _ | (with_reducible refine Bw.setCell ?_ (by simp) _) | (with_reducible refine Bw.alloc ?_ _) | (with_reducible refine Bw.drew ?_) | (with_reducible refine Bw.drewN ?_ _)))) hb1
    exact bodyPost_ret (v := .tuple #[.agg #[.int .i64 t, .int .i64 z, .slice none 0 0, .int .i64 0, .int .i64 0, .slice none 0 0], .bool true]) (by simp [results, Tryd.results43, go_sem, b00, b01, b02, b03, b04, b05]) rfl ⟨rfl, ((((((hb.setCell (p := ⟨w.heap.size, 0, none⟩) (Nat.le_refl _) (.int .i64 t)).setCell (p := ⟨w.heap.size, 1, none⟩) (Nat.le_refl _) (.int .i64 z)).setCell (p := ⟨w.heap.size, 2, none⟩) (Nat.le_refl _) (.slice none 0 0)).setCell (p := ⟨w.heap.size, 3, none⟩) (Nat.le_refl _) (.int .i64 0)).setCell (p := ⟨w.heap.size, 4, none⟩) (Nat.le_refl _) (.int .i64 0)).setCell (p := ⟨w.heap.size, 5, none⟩) (Nat.le_refl _) (.slice none 0 0))⟩
theorem c_held0 (k0 : Int) (w : World) : Calls Tryd.prog 90 #[.slice none 0 0, .int .i64 k0] w fun e w' => e = .returned (.int .i64 k0) ∧ w = w' := by
  go_enter Tryd.func90, Tryd.ntmps90
  go_wp2
  go_loop [1, 5] (fun kv i => kv = .int .i64 k0 ∧ i = .int .i64 0) (fun _ _ => 0)
  case atStart => exact ⟨rfl, rfl⟩
  case round =>
    obtain ⟨rfl, rfl⟩ := hrel
    go_wp2
    go_ret
    exact ⟨rfl, rfl⟩
theorem c_heldSW0 (t z : Int) (w : World) : Calls Tryd.prog 75 #[.agg #[.int .i64 t, .int .i64 z, .slice none 0 0], .int .i64 1] w fun e w' => e = .returned (.int .i64 1) ∧ Bw w w' := by
  go_enter Tryd.func75, Tryd.ntmps75
  go_wp2_with (go_at_call 90; refine (c_held0 _ _).mono ?_; rintro e w1 ⟨rfl, rfl⟩)
  go_ret
  exact ⟨rfl, by (repeat (first | with_reducible assumption | exact Bw.refl _ | (with_reducible refine Bw.setCell ?_ (by simp) _) | (with_reducible refine Bw.alloc ?_ _) | (with_reducible refine Bw.drew ?_) | (with_reducible refine Bw.drewN ?_ _)))⟩
theorem c_markSource0 (t z : Int) (w : World) : Calls Tryd.prog 44 #[.agg #[.int .i64 t, .int .i64 z, .slice none 0 0, .int .i64 0, .int .i64 0, .slice none 0 0], .int .i64 1] w fun e w' => e = .returned (.int .i64 1) ∧ Bw w w' := by
  have hbx : Bw w (w.alloc (.cells #[.int .i64 t, .int .i64 z, .slice none 0 0, .int .i64 0, .int .i64 0, .slice none 0 0] 59)) := Bw.alloc (Bw.refl _) _
  go_enter Tryd.func44, Tryd.ntmps44
  go_wp2_with (go_at_call 32; refine (c_markSendWindow t z none 0 0 [] 0 _ (by omega) (Row.nil _ _ _ _ _)).mono ?_; rintro e w1 ⟨rfl, hg1⟩; have hb1 := Bw.ofRow (Bw.refl _) hg1 (fun x hx => by cases hx); have b5 := hb1.cellv (p := ⟨w.heap.size, 5, none⟩) (v := .slice none 0 0) (by go_simp))
  refine (c_markHoldS none 0 0 [] 1 0 _ (by omega) (by omega) (by omega) (Row.nil _ _ _ _ _)).mono ?_
  rintro e w2 ⟨rfl, _, hg2⟩
  have hb2 := Bw.ofRow (Bw.refl _) hg2 (fun x hx => by cases hx)
  go_wp2_with fail
  go_ret
  exact ⟨rfl, (hbx.trans hb1).trans hb2⟩
theorem c_heldSource0 (t z : Int) (w : World) : Calls Tryd.prog 45 #[.agg #[.int .i64 t, .int .i64 z, .slice none 0 0, .int .i64 0, .int .i64 0, .slice none 0 0], .int .i64 1] w fun e w' => e = .returned (.int .i64 1) ∧ Bw w w' := by
  have hbx : Bw w (w.alloc (.cells #[.int .i64 t, .int .i64 z, .slice none 0 0, .int .i64 0, .int .i64 0, .slice none 0 0] 59)) := Bw.alloc (Bw.refl _) _
  go_enter Tryd.func45, Tryd.ntmps45
  go_wp2_with (go_at_call 75; refine (c_heldSW0 t z _).mono ?_; rintro e w1 ⟨rfl, hb1⟩; have b5 := hb1.cellv (p := ⟨w.heap.size, 5, none⟩) (v := .slice none 0 0) (by go_simp))
  refine (c_heldHoldS none 0 0 1 _ (by omega) (by omega) (by omega) (Rd.nil _ _ _)).mono ?_
  rintro e w2 ⟨rfl, rfl⟩
  go_wp2_with fail
  go_ret
  exact ⟨rfl, hbx.trans hb1⟩
set_option maxRecDepth 100000 in
set_option maxHeartbeats 1000000 in
theorem w_NewSource (t z : Int) (w : World) :
    Calls Tryd.prog 11 #[.int .i64 t, .int .i64 z] w fun e w' => e = .returned (.bool true) ∧ Bw w w' := by
  have HS := Lib.hid (fun W => c_sNewSource t z W)
  have HI := Lib.hid (fun W => c_iNewSource t z W)
  generalize srcB t z [] 0 0 [] = r at *
  generalize nsT t z = T at *
  generalize nsZ t z = Z at *
  · go_enter Tryd.func11, Tryd.ntmps11
    go_wp2_with fail
    refine (HS.out _).mono ?_
    rintro e w1 ⟨rfl, hb1⟩
    go_wp2_with fail
    refine (HI.out _).mono ?_
    rintro e w2 ⟨rfl, hb2⟩
    have z0 := hb2.cellv (p := ⟨w1.heap.size, 0, none⟩) (v := .int .i64 T) (by go_simp)
    have z1 := hb2.cellv (p := ⟨w1.heap.size, 1, none⟩) (v := .int .i64 Z) (by go_simp)
    have z2 := hb2.cellv (p := ⟨w1.heap.size, 2, none⟩) (v := .slice none 0 0) (by go_simp)
    have z3 := hb2.cellv (p := ⟨w1.heap.size, 3, none⟩) (v := .int .i64 0) (by go_simp)
    have z4 := hb2.cellv (p := ⟨w1.heap.size, 4, none⟩) (v := .int .i64 0) (by go_simp)
    have z5 := hb2.cellv (p := ⟨w1.heap.size, 5, none⟩) (v := .slice none 0 0) (by go_simp)
    have k2 : Bw w w2 := (hb1.trans (Bw.alloc (Bw.refl _) _)).trans hb2
    have l2 := World.block_lt_of_cell? w2 _ z0
    go_wp2_with fail
    refine (c_eqSource T Z none none 0 0 0 [] 0 0 none none 0 0 0 [] _ (by omega) (by omega) (Rd.nil _ _ _) (Rd.nil _ _ _) (Rd.nil _ _ _) (Rd.nil _ _ _)).mono ?_
    rintro e w3 ⟨rfl, hb3⟩
    have x0 := hb3.cellv (p := ⟨w2.heap.size, 0, none⟩) (v := .int .i64 T) (by go_simp)
    have x1 := hb3.cellv (p := ⟨w2.heap.size, 1, none⟩) (v := .int .i64 Z) (by go_simp)
    have x2 := hb3.cellv (p := ⟨w2.heap.size, 2, none⟩) (v := .slice none 0 0) (by go_simp)
    have x3 := hb3.cellv (p := ⟨w2.heap.size, 3, none⟩) (v := .int .i64 0) (by go_simp)
    have x4 := hb3.cellv (p := ⟨w2.heap.size, 4, none⟩) (v := .int .i64 0) (by go_simp)
    have x5 := hb3.cellv (p := ⟨w2.heap.size, 5, none⟩) (v := .slice none 0 0) (by go_simp)
    have k23 : Bw w2 w3 := (Bw.alloc (Bw.refl _) _).trans hb3
    replace z0 := k23.cellv z0
    replace z1 := k23.cellv z1
    replace z2 := k23.cellv z2
    replace z3 := k23.cellv z3
    replace z4 := k23.cellv z4
    replace z5 := k23.cellv z5
    have k3 := k2.trans k23
    go_wp2_with fail
    refine (c_markSource0 T Z _).mono ?_
    rintro e w4 ⟨rfl, hb4⟩
    replace z0 := hb4.cellv z0
    replace z1 := hb4.cellv z1
    replace z2 := hb4.cellv z2
    replace z3 := hb4.cellv z3
    replace z4 := hb4.cellv z4
    replace z5 := hb4.cellv z5
    replace x0 := hb4.cellv x0
    replace x1 := hb4.cellv x1
    replace x2 := hb4.cellv x2
    replace x3 := hb4.cellv x3
    replace x4 := hb4.cellv x4
    replace x5 := hb4.cellv x5
    go_wp2_with fail
    refine (c_heldSource0 T Z _).mono ?_
    rintro e w5 ⟨rfl, hb5⟩
    replace z0 := hb5.cellv z0
    replace z1 := hb5.cellv z1
    replace z2 := hb5.cellv z2
    replace z3 := hb5.cellv z3
    replace z4 := hb5.cellv z4
    replace z5 := hb5.cellv z5
    replace x0 := hb5.cellv x0
    replace x1 := hb5.cellv x1
    replace x2 := hb5.cellv x2
    replace x3 := hb5.cellv x3
    replace x4 := hb5.cellv x4
    replace x5 := hb5.cellv x5
    go_wp2_with fail
    refine (HI.out _).mono ?_
    rintro e w6 ⟨rfl, hb6⟩
    replace z0 := hb6.cellv z0
    replace z1 := hb6.cellv z1
    replace z2 := hb6.cellv z2
    replace z3 := hb6.cellv z3
    replace z4 := hb6.cellv z4
    replace z5 := hb6.cellv z5
    replace x0 := hb6.cellv x0
    replace x1 := hb6.cellv x1
    replace x2 := hb6.cellv x2
    replace x3 := hb6.cellv x3
    replace x4 := hb6.cellv x4
    replace x5 := hb6.cellv x5
    have l6 := World.block_lt_of_cell? w6 _ x0
    have l6' := World.block_lt_of_cell? w6 _ z0
    have k6 := ((k3.trans hb4).trans hb5).trans hb6
    go_wp2_with fail
    refine (c_eqSource T Z none none 0 0 0 [] 0 0 none none 0 0 0 [] _ (by omega) (by omega) (Rd.nil _ _ _) (Rd.nil _ _ _) (Rd.nil _ _ _) (Rd.nil _ _ _)).mono ?_
    rintro e w7 ⟨rfl, hb7⟩
    have k67 : Bw w6 w7 := (Bw.alloc (Bw.refl _) _).trans hb7
    replace x0 := k67.cellv x0
    replace x1 := k67.cellv x1
    replace x2 := k67.cellv x2
    replace x3 := k67.cellv x3
    replace x4 := k67.cellv x4
    replace x5 := k67.cellv x5
    go_wp2_with fail
    refine (c_heldSource0 T Z _).mono ?_
    rintro e w8 ⟨rfl, hb8⟩
    go_wp2_with fail
    go_ret
    exact ⟨rfl, (k6.trans k67).trans hb8⟩
end Go.Proofs.YthdmnngmijbcbaaDoor
