
/- Links: a new one; its law. -/
import Derived.Test.YtilgllbojdkhhaaDoorN4
namespace Go.Proofs.YtilgllbojdkhhaaDoor
open Go.RowKit Go.ChangeShapes Go.WideShapes Go.ChangeAt Go.Joins Go.Deep
def newF (f : ByteArray) : ByteArray := if lkB [] f 0 = true then f else ⟨#[]⟩
theorem fitS_nil : fitS [] := fun k hk => absurd hk (by simp)
set_option maxRecDepth 100000 in
theorem c_sNewLink (f : ByteArray) (hfs : f.size ≤ maxLen) (w : World) :
    Calls Tryd.prog 14 #[.string f] w fun e w' => e = .returned (.tuple #[.agg #[.slice none 0 0, .string (newF f), .int .i64 0], .bool (lkB [] f 0)]) ∧ Bw w w' := by
  generalize hg : lkB [] f 0 = r
  have Hg := Lib.hid hg
  have HE := Lib.hid (show newF f = if r = true then f else ⟨#[]⟩ by rw [newF, hg])
  clear hg
  rw [HE.out]
  cases r
  · go_enter Tryd.func14, Tryd.ntmps14
    go_wp2_with (go_at_call 35; refine (c_l7Good none 0 0 [] fitS_nil f hfs 0 Hg.out _ (by omega) (Rd.nil _ _ _)).mono ?_; rintro e w1 ⟨rfl, hb1⟩; have hr1 := hb1.rule; have hf1 := hb1.frz; have hs1 : w.heap.size + 2 ≤ w1.heap.size := (by have := hb1.size; simpa using this); have b00 := hb1.cellv (p := ⟨w.heap.size, 0, none⟩) (v := .slice none 0 0) (by go_simp); have b01 := hb1.cellv (p := ⟨w.heap.size, 1, none⟩) (v := .string ⟨#[]⟩) (by go_simp); have b02 := hb1.cellv (p := ⟨w.heap.size, 2, none⟩) (v := .int .i64 0) (by go_simp); have b10 := hb1.cellv (p := ⟨w.heap.size + 1, 0, none⟩) (v := .slice none 0 0) (by go_simp); have b11 := hb1.cellv (p := ⟨w.heap.size + 1, 1, none⟩) (v := .string f) (by go_simp); have b12 := hb1.cellv (p := ⟨w.heap.size + 1, 2, none⟩) (v := .int .i64 0) (by go_simp))
    have hb : Bw w w1 := Bw.trans (by (repeat (first | with_reducible assumption | exact Bw.refl _ | (with_reducible refine Bw.setCell ?_ (by simp) _) | (with_reducible refine Bw.alloc ?_ _) | (with_reducible refine Bw.drew ?_) | (with_reducible refine Bw.drewN ?_ _)))) hb1
    exact bodyPost_ret (v := .tuple #[.agg #[.slice none 0 0, .string ⟨#[]⟩, .int .i64 0], .bool false]) (by simp [results, Tryd.results14, go_sem, b00, b01, b02]) rfl ⟨rfl, ((hb.setCell (p := ⟨w.heap.size, 0, none⟩) (Nat.le_refl _) (.slice none 0 0)).setCell (p := ⟨w.heap.size, 1, none⟩) (Nat.le_refl _) (.string ⟨#[]⟩)).setCell (p := ⟨w.heap.size, 2, none⟩) (Nat.le_refl _) (.int .i64 0)⟩
  · go_enter Tryd.func14, Tryd.ntmps14
    go_wp2_with (go_at_call 35; refine (c_l7Good none 0 0 [] fitS_nil f hfs 0 Hg.out _ (by omega) (Rd.nil _ _ _)).mono ?_; rintro e w1 ⟨rfl, hb1⟩; have hr1 := hb1.rule; have hf1 := hb1.frz; have hs1 : w.heap.size + 2 ≤ w1.heap.size := (by have := hb1.size; simpa using this); have b00 := hb1.cellv (p := ⟨w.heap.size, 0, none⟩) (v := .slice none 0 0) (by go_simp); have b01 := hb1.cellv (p := ⟨w.heap.size, 1, none⟩) (v := .string ⟨#[]⟩) (by go_simp); have b02 := hb1.cellv (p := ⟨w.heap.size, 2, none⟩) (v := .int .i64 0) (by go_simp); have b10 := hb1.cellv (p := ⟨w.heap.size + 1, 0, none⟩) (v := .slice none 0 0) (by go_simp); have b11 := hb1.cellv (p := ⟨w.heap.size + 1, 1, none⟩) (v := .string f) (by go_simp); have b12 := hb1.cellv (p := ⟨w.heap.size + 1, 2, none⟩) (v := .int .i64 0) (by go_simp))
    have hb : Bw w w1 := Bw.trans (by (repeat (first | with_reducible assumption | exact Bw.refl _ | (with_reducible refine Bw.setCell ?_ (by simp) _) | (with_reducible refine Bw.alloc ?_ _) | (with_reducible refine Bw.drew ?_) | (with_reducible refine Bw.drewN ?_ _)))) hb1
    exact bodyPost_ret (v := .tuple #[.agg #[.slice none 0 0, .string f, .int .i64 0], .bool true]) (by simp [results, Tryd.results14, go_sem, b00, b01, b02]) rfl ⟨rfl, ((hb.setCell (p := ⟨w.heap.size, 0, none⟩) (Nat.le_refl _) (.slice none 0 0)).setCell (p := ⟨w.heap.size, 1, none⟩) (Nat.le_refl _) (.string f)).setCell (p := ⟨w.heap.size, 2, none⟩) (Nat.le_refl _) (.int .i64 0)⟩
set_option maxRecDepth 100000 in
theorem c_iNewLink (f : ByteArray) (hfs : f.size ≤ maxLen) (w : World) :
    Calls Tryd.prog 15 #[.string f] w fun e w' => e = .returned (.tuple #[.agg #[.slice none 0 0, .string (newF f), .int .i64 0], .bool (lkB [] f 0)]) ∧ Bw w w' := by
  generalize hg : lkB [] f 0 = r
  have Hg := Lib.hid hg
  have HE := Lib.hid (show newF f = if r = true then f else ⟨#[]⟩ by rw [newF, hg])
  clear hg
  rw [HE.out]
  cases r
  · go_enter Tryd.func15, Tryd.ntmps15
    go_wp2_with (go_at_call 12; refine (c_IsValidLink none 0 0 [] fitS_nil f hfs 0 Hg.out _ (by omega) (Rd.nil _ _ _)).mono ?_; rintro e w1 ⟨rfl, hb1⟩; have hr1 := hb1.rule; have hf1 := hb1.frz; have hs1 : w.heap.size + 2 ≤ w1.heap.size := (by have := hb1.size; simpa using this); have b00 := hb1.cellv (p := ⟨w.heap.size, 0, none⟩) (v := .slice none 0 0) (by go_simp); have b01 := hb1.cellv (p := ⟨w.heap.size, 1, none⟩) (v := .string ⟨#[]⟩) (by go_simp); have b02 := hb1.cellv (p := ⟨w.heap.size, 2, none⟩) (v := .int .i64 0) (by go_simp); have b10 := hb1.cellv (p := ⟨w.heap.size + 1, 0, none⟩) (v := .slice none 0 0) (by go_simp); have b11 := hb1.cellv (p := ⟨w.heap.size + 1, 1, none⟩) (v := .string f) (by go_simp); have b12 := hb1.cellv (p := ⟨w.heap.size + 1, 2, none⟩) (v := .int .i64 0) (by go_simp))
    have hb : Bw w w1 := Bw.trans (by (repeat (first | with_reducible assumption | exact Bw.refl _ | (with_reducible refine Bw.setCell ?_ (by simp) _) | (with_reducible refine Bw.alloc ?_ _) | (with_reducible refine Bw.drew ?_) | (with_reducible refine Bw.drewN ?_ _)))) hb1
    exact bodyPost_ret (v := .tuple #[.agg #[.slice none 0 0, .string ⟨#[]⟩, .int .i64 0], .bool false]) (by simp [results, Tryd.results15, go_sem, b00, b01, b02]) rfl ⟨rfl, ((hb.setCell (p := ⟨w.heap.size, 0, none⟩) (Nat.le_refl _) (.slice none 0 0)).setCell (p := ⟨w.heap.size, 1, none⟩) (Nat.le_refl _) (.string ⟨#[]⟩)).setCell (p := ⟨w.heap.size, 2, none⟩) (Nat.le_refl _) (.int .i64 0)⟩
  · go_enter Tryd.func15, Tryd.ntmps15
    go_wp2_with (go_at_call 12; refine (c_IsValidLink none 0 0 [] fitS_nil f hfs 0 Hg.out _ (by omega) (Rd.nil _ _ _)).mono ?_; rintro e w1 ⟨rfl, hb1⟩; have hr1 := hb1.rule; have hf1 := hb1.frz; have hs1 : w.heap.size + 2 ≤ w1.heap.size := (by have := hb1.size; simpa using this); have b00 := hb1.cellv (p := ⟨w.heap.size, 0, none⟩) (v := .slice none 0 0) (by go_simp); have b01 := hb1.cellv (p := ⟨w.heap.size, 1, none⟩) (v := .string ⟨#[]⟩) (by go_simp); have b02 := hb1.cellv (p := ⟨w.heap.size, 2, none⟩) (v := .int .i64 0) (by go_simp); have b10 := hb1.cellv (p := ⟨w.heap.size + 1, 0, none⟩) (v := .slice none 0 0) (by go_simp); have b11 := hb1.cellv (p := ⟨w.heap.size + 1, 1, none⟩) (v := .string f) (by go_simp); have b12 := hb1.cellv (p := ⟨w.heap.size + 1, 2, none⟩) (v := .int .i64 0) (by go_simp))
    have hb : Bw w w1 := Bw.trans (by (repeat (first | with_reducible assumption | exact Bw.refl _ | (with_reducible refine Bw.setCell ?_ (by simp) _) | (with_reducible refine Bw.alloc ?_ _) | (with_reducible refine Bw.drew ?_) | (with_reducible refine Bw.drewN ?_ _)))) hb1
    exact bodyPost_ret (v := .tuple #[.agg #[.slice none 0 0, .string f, .int .i64 0], .bool true]) (by simp [results, Tryd.results15, go_sem, b00, b01, b02]) rfl ⟨rfl, ((hb.setCell (p := ⟨w.heap.size, 0, none⟩) (Nat.le_refl _) (.slice none 0 0)).setCell (p := ⟨w.heap.size, 1, none⟩) (Nat.le_refl _) (.string f)).setCell (p := ⟨w.heap.size, 2, none⟩) (Nat.le_refl _) (.int .i64 0)⟩
theorem c_mark0 (k0 : Int) (w : World) : Calls Tryd.prog 23 #[.slice none 0 0, .int .i64 k0] w fun e w' => e = .returned (.int .i64 k0) ∧ w = w' := by
  go_enter Tryd.func23, Tryd.ntmps23
  go_wp2
  go_loop [1, 5] (fun kv i => kv = .int .i64 k0 ∧ i = .int .i64 0) (fun _ _ => 0)
  case atStart => exact ⟨rfl, rfl⟩
  case round =>
    obtain ⟨rfl, rfl⟩ := hrel
    go_wp2
    go_ret
    exact ⟨rfl, rfl⟩
theorem c_held0 (k0 : Int) (w : World) : Calls Tryd.prog 24 #[.slice none 0 0, .int .i64 k0] w fun e w' => e = .returned (.int .i64 k0) ∧ w = w' := by
  go_enter Tryd.func24, Tryd.ntmps24
  go_wp2
  go_loop [1, 5] (fun kv i => kv = .int .i64 k0 ∧ i = .int .i64 0) (fun _ _ => 0)
  case atStart => exact ⟨rfl, rfl⟩
  case round =>
    obtain ⟨rfl, rfl⟩ := hrel
    go_wp2
    go_ret
    exact ⟨rfl, rfl⟩
theorem c_markLink0 (f : ByteArray) (w : World) : Calls Tryd.prog 16 #[.agg #[.slice none 0 0, .string f, .int .i64 0], .int .i64 1] w fun e w' => e = .returned (.int .i64 1) ∧ Bw w w' := by
  go_enter Tryd.func16, Tryd.ntmps16
  go_wp2_with (go_at_call 23; refine (c_mark0 _ _).mono ?_; rintro e w1 ⟨rfl, rfl⟩)
  go_ret
  exact ⟨rfl, by (repeat (first | with_reducible assumption | exact Bw.refl _ | (with_reducible refine Bw.setCell ?_ (by simp) _) | (with_reducible refine Bw.alloc ?_ _) | (with_reducible refine Bw.drew ?_) | (with_reducible refine Bw.drewN ?_ _)))⟩
theorem c_heldLink0 (f : ByteArray) (w : World) : Calls Tryd.prog 17 #[.agg #[.slice none 0 0, .string f, .int .i64 0], .int .i64 1] w fun e w' => e = .returned (.int .i64 1) ∧ Bw w w' := by
  go_enter Tryd.func17, Tryd.ntmps17
  go_wp2_with (go_at_call 24; refine (c_held0 _ _).mono ?_; rintro e w1 ⟨rfl, rfl⟩)
  go_ret
  exact ⟨rfl, by (repeat (first | with_reducible assumption | exact Bw.refl _ | (with_reducible refine Bw.setCell ?_ (by simp) _) | (with_reducible refine Bw.alloc ?_ _) | (with_reducible refine Bw.drew ?_) | (with_reducible refine Bw.drewN ?_ _)))⟩
set_option maxRecDepth 100000 in
theorem w_NewLink (f : ByteArray) (hfs : f.size ≤ maxLen) (w : World) :
    Calls Tryd.prog 4 #[.string f] w fun e w' => e = .returned (.bool true) ∧ Bw w w' := by
  generalize hr : lkB [] f 0 = r
  generalize hv : newF f = F
  have HS := Lib.hid (fun W => c_sNewLink f hfs W)
  have HI := Lib.hid (fun W => c_iNewLink f hfs W)
  rw [hr, hv] at HS HI
  clear hr hv
  unfold maxLen at hfs
  by_cases hn : f.size ≤ 1048576
  · go_enter Tryd.func4, Tryd.ntmps4
    go_wp2_with fail
    refine (HS.out _).mono ?_
    rintro e w1 ⟨rfl, hb1⟩
    go_wp2_with fail
    refine (HI.out _).mono ?_
    rintro e w2 ⟨rfl, hb2⟩
    have z0 := hb2.cellv (p := ⟨w1.heap.size, 0, none⟩) (v := .slice none 0 0) (by go_simp)
    have z1 := hb2.cellv (p := ⟨w1.heap.size, 1, none⟩) (v := .string F) (by go_simp)
    have z2 := hb2.cellv (p := ⟨w1.heap.size, 2, none⟩) (v := .int .i64 0) (by go_simp)
    have k2 : Bw w w2 := (hb1.trans (Bw.alloc (Bw.refl _) _)).trans hb2
    have l2 := World.block_lt_of_cell? w2 _ z0
    go_wp2_with fail
    refine (c_eqLink none none 0 0 0 [] F 0 _ (by omega) (Rd.nil _ _ _) (Rd.nil _ _ _)).mono ?_
    rintro e w3 ⟨rfl, hb3⟩
    have x0 := hb3.cellv (p := ⟨w2.heap.size, 0, none⟩) (v := .slice none 0 0) (by go_simp)
    have x1 := hb3.cellv (p := ⟨w2.heap.size, 1, none⟩) (v := .string F) (by go_simp)
    have x2 := hb3.cellv (p := ⟨w2.heap.size, 2, none⟩) (v := .int .i64 0) (by go_simp)
    have k23 : Bw w2 w3 := (Bw.alloc (Bw.refl _) _).trans hb3
    replace z0 := k23.cellv z0
    replace z1 := k23.cellv z1
    replace z2 := k23.cellv z2
    have k3 := k2.trans k23
    go_wp2_with fail
    refine (c_markLink0 F _).mono ?_
    rintro e w4 ⟨rfl, hb4⟩
    replace x0 := hb4.cellv x0
    replace x1 := hb4.cellv x1
    replace x2 := hb4.cellv x2
    replace z0 := hb4.cellv z0
    replace z1 := hb4.cellv z1
    replace z2 := hb4.cellv z2
    go_wp2_with fail
    refine (c_heldLink0 F _).mono ?_
    rintro e w5 ⟨rfl, hb5⟩
    replace x0 := hb5.cellv x0
    replace x1 := hb5.cellv x1
    replace x2 := hb5.cellv x2
    replace z0 := hb5.cellv z0
    replace z1 := hb5.cellv z1
    replace z2 := hb5.cellv z2
    go_wp2_with fail
    refine (HI.out _).mono ?_
    rintro e w6 ⟨rfl, hb6⟩
    replace x0 := hb6.cellv x0
    replace x1 := hb6.cellv x1
    replace x2 := hb6.cellv x2
    replace z0 := hb6.cellv z0
    replace z1 := hb6.cellv z1
    replace z2 := hb6.cellv z2
    have l6 := World.block_lt_of_cell? w6 _ x0
    have l6' := World.block_lt_of_cell? w6 _ z0
    have k6 := ((k3.trans hb4).trans hb5).trans hb6
    go_wp2_with fail
    refine (c_eqLink none none 0 0 0 [] F 0 _ (by omega) (Rd.nil _ _ _) (Rd.nil _ _ _)).mono ?_
    rintro e w7 ⟨rfl, hb7⟩
    have k67 : Bw w6 w7 := (Bw.alloc (Bw.refl _) _).trans hb7
    replace x0 := k67.cellv x0
    replace x1 := k67.cellv x1
    replace x2 := k67.cellv x2
    go_wp2_with fail
    refine (c_heldLink0 F _).mono ?_
    rintro e w8 ⟨rfl, hb8⟩
    go_wp2_with fail
    go_ret
    exact ⟨rfl, (k6.trans k67).trans hb8⟩
  · go_enter Tryd.func4, Tryd.ntmps4
    go_wp2_with fail
    go_ret
    exact ⟨rfl, Bw.refl _⟩
end Go.Proofs.YtilgllbojdkhhaaDoor
