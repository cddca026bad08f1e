
/- StatusOf: both sides; the law. -/
import Derived.Test.YthdmnngmijbcbaaDoorS6
import Derived.Test.YthdmnngmijbcbaaDoorLSendValid
namespace Go.Proofs.YthdmnngmijbcbaaDoor
open Go.RowKit
def stK (t z : Int) (ss : List ByteArray) : Int := if swB t z ss = true then 5 else 0
def stT (t z : Int) (ss : List ByteArray) : Int := if swB t z ss = true then t else 0
set_option maxRecDepth 100000 in
set_option maxHeartbeats 1000000 in
theorem c_sStatusOf (t z : Int) (A : Option Addr) (n c : Nat) (ss : List ByteArray) (hf : fitS ss) {k u m : Int} (hk : stK t z ss = k) (hu : stT t z ss = u) (hm : leadR t z ss = m) {r : Bool} (hr : swB t z ss = r) (w : World) (hn : n ≤ 9223372036854775807) (h : Rd w A n 1 (ss.map scell)) :
    Calls Tryd.prog 22 #[.agg #[.int .i64 t, .int .i64 z, .slice A n c]] w fun e w' => e = .returned (.tuple #[.agg #[.int .i64 k, .int .i64 u, .int .i64 u, .int .i64 m, .string ⟨#[]⟩], .bool r]) ∧ Bw w w' := by
  have hl := Lib.hid h.slen
  subst hr
  have hk0 : Bw w ((w.alloc (.cells #[.int .i64 t, .int .i64 z, .slice A n c] 27)).alloc (.cells #[.int .i64 0, .int .i64 0, .int .i64 0, .int .i64 0, .string ⟨#[]⟩] 37)) := by (repeat (first | with_reducible assumption | exact Bw.refl _ | (with_reducible refine Bw.setCell ?_ (by simp) _) | (with_reducible refine Bw.alloc ?_ _) | (with_reducible refine Bw.drew ?_) | (with_reducible refine Bw.drewN ?_ _)))
  cases hg : swB t z ss
  · have HR := Lib.hid (show k = 0 ∧ u = 0 ∧ m = 0 by rw [← hk, ← hu, ← hm]; simp [stK, stT, leadR, hg])
    clear hk hu hm
    go_enter Tryd.func22, Tryd.ntmps22
    go_wp2_with (go_at_call 49; refine (c_l9Good t z _ _ _ ss hf hg _ hn (h.keep hk0)).mono ?_; rintro e w1 ⟨rfl, hb1⟩; have e0 := hb1.cellv (p := ⟨w.heap.size + 1, 0, none⟩) (v := .int .i64 0) (by go_simp); have e1 := hb1.cellv (p := ⟨w.heap.size + 1, 1, none⟩) (v := .int .i64 0) (by go_simp); have e2 := hb1.cellv (p := ⟨w.heap.size + 1, 2, none⟩) (v := .int .i64 0) (by go_simp); have e3 := hb1.cellv (p := ⟨w.heap.size + 1, 3, none⟩) (v := .int .i64 0) (by go_simp); have e4 := hb1.cellv (p := ⟨w.heap.size + 1, 4, none⟩) (v := .string ⟨#[]⟩) (by go_simp); have ff : ∀ j, w1.frozen? ⟨w.heap.size + 1, j, none⟩ = false := (fun j => (hb1.frz ⟨w.heap.size + 1, j, none⟩ (by simp)).trans (by go_simp)))
    have hk1 := hk0.trans hb1
    rw [HR.out.1, HR.out.2.1, HR.out.2.2]
    refine bodyPost_ret (v := .tuple #[.agg #[.int .i64 0, .int .i64 0, .int .i64 0, .int .i64 0, .string ⟨#[]⟩], .bool false]) (by simp [results, Tryd.results22, go_sem, e0, e1, e2, e3, e4]) rfl ⟨rfl, ?_⟩
    (repeat (first | with_reducible assumption | exact Bw.refl _ | (with_reducible refine Bw.setCell ?_ (by simp) _) | (with_reducible refine Bw.alloc ?_ _) | (with_reducible refine Bw.drew ?_) | (with_reducible refine Bw.drewN ?_ _)))
  · obtain ⟨g1, g2, g3, g4⟩ := swB_iff.1 hg
    have ⟨t0, t1⟩ := inR_iff.1 g1
    have ⟨z0, z1⟩ := inR_iff.1 g2
    have hn6 : n ≤ 6 := by have := hl.out; omega
    have HR := Lib.hid (show k = 5 ∧ u = t ∧ m = aftI t n by rw [← hk, ← hu, ← hm]; simp [stK, stT, leadR, hg, hl.out])
    clear g1 g2 g3 g4 hk hu hm
    go_enter Tryd.func22, Tryd.ntmps22
    go_wp2_with (go_at_call 49; refine (c_l9Good t z _ _ _ ss hf hg _ hn (h.keep hk0)).mono ?_; rintro e w1 ⟨rfl, hb1⟩; have d0 := hb1.cellv (p := ⟨w.heap.size, 0, none⟩) (v := .int .i64 t) (by go_simp); have d1 := hb1.cellv (p := ⟨w.heap.size, 1, none⟩) (v := .int .i64 z) (by go_simp); have d2 := hb1.cellv (p := ⟨w.heap.size, 2, none⟩) (v := .slice A n c) (by go_simp); have e0 := hb1.cellv (p := ⟨w.heap.size + 1, 0, none⟩) (v := .int .i64 0) (by go_simp); have e1 := hb1.cellv (p := ⟨w.heap.size + 1, 1, none⟩) (v := .int .i64 0) (by go_simp); have e2 := hb1.cellv (p := ⟨w.heap.size + 1, 2, none⟩) (v := .int .i64 0) (by go_simp); have e3 := hb1.cellv (p := ⟨w.heap.size + 1, 3, none⟩) (v := .int .i64 0) (by go_simp); have e4 := hb1.cellv (p := ⟨w.heap.size + 1, 4, none⟩) (v := .string ⟨#[]⟩) (by go_simp); have ff : ∀ j, w1.frozen? ⟨w.heap.size + 1, j, none⟩ = false := (fun j => (hb1.frz ⟨w.heap.size + 1, j, none⟩ (by simp)).trans (by go_simp)))
    refine (c_l9Status t z _ _ _ rfl t0 t1 hn6 _).mono ?_
    rintro e w2 ⟨rfl, hb2⟩
    have a0 := hb2.cellv e0
    have a1 := hb2.cellv e1
    have a2 := hb2.cellv e2
    have a3 := hb2.cellv e3
    have a4 := hb2.cellv e4
    have fg : ∀ j, w2.frozen? ⟨w.heap.size + 1, j, none⟩ = false := fun j => (hb2.frz ⟨w.heap.size + 1, j, none⟩ (show w.heap.size + 1 < w1.heap.size from World.block_lt_of_cell? w1 ⟨w.heap.size + 1, 0, none⟩ e0)).trans (ff j)
    clear e0 e1 e2 e3 e4 ff d0 d1 d2
    go_wp2_with fail
    have hk2 := (hk0.trans hb1).trans hb2
    rw [HR.out.1, HR.out.2.1, HR.out.2.2]
    refine bodyPost_ret (v := .tuple #[.agg #[.int .i64 5, .int .i64 t, .int .i64 t, .int .i64 (aftI t n), .string ⟨#[]⟩], .bool true]) (by simp [results, Tryd.results22, go_sem, a0, a1, a2, a3, a4]) rfl ⟨rfl, ?_⟩
    (repeat (first | with_reducible assumption | exact Bw.refl _ | (with_reducible refine Bw.setCell ?_ (by simp) _) | (with_reducible refine Bw.alloc ?_ _) | (with_reducible refine Bw.drew ?_) | (with_reducible refine Bw.drewN ?_ _)))
set_option maxRecDepth 100000 in
set_option maxHeartbeats 1000000 in
theorem c_iStatusOf (t z : Int) (A : Option Addr) (n c : Nat) (ss : List ByteArray) (hf : fitS ss) {k u m : Int} (hk : stK t z ss = k) (hu : stT t z ss = u) (hm : leadR t z ss = m) {r : Bool} (hr : swB t z ss = r) (w : World) (hn : n ≤ 9223372036854775807) (h : Rd w A n 1 (ss.map scell)) :
    Calls Tryd.prog 23 #[.agg #[.int .i64 t, .int .i64 z, .slice A n c]] w fun e w' => e = .returned (.tuple #[.agg #[.int .i64 k, .int .i64 u, .int .i64 u, .int .i64 m, .string ⟨#[]⟩], .bool r]) ∧ Bw w w' := by
  have hl := Lib.hid h.slen
  subst hr
  have hk0 : Bw w ((w.alloc (.cells #[.int .i64 t, .int .i64 z, .slice A n c] 27)).alloc (.cells #[.int .i64 0, .int .i64 0, .int .i64 0, .int .i64 0, .string ⟨#[]⟩] 37)) := by (repeat (first | with_reducible assumption | exact Bw.refl _ | (with_reducible refine Bw.setCell ?_ (by simp) _) | (with_reducible refine Bw.alloc ?_ _) | (with_reducible refine Bw.drew ?_) | (with_reducible refine Bw.drewN ?_ _)))
  cases hg : swB t z ss
  · have HR := Lib.hid (show k = 0 ∧ u = 0 ∧ m = 0 by rw [← hk, ← hu, ← hm]; simp [stK, stT, leadR, hg])
    clear hk hu hm
    go_enter Tryd.func23, Tryd.ntmps23
    go_wp2_with (go_at_call 16; refine (c_IsValidSendWindow t z _ _ _ ss hf hg _ hn (h.keep hk0)).mono ?_; rintro e w1 ⟨rfl, hb1⟩; have e0 := hb1.cellv (p := ⟨w.heap.size + 1, 0, none⟩) (v := .int .i64 0) (by go_simp); have e1 := hb1.cellv (p := ⟨w.heap.size + 1, 1, none⟩) (v := .int .i64 0) (by go_simp); have e2 := hb1.cellv (p := ⟨w.heap.size + 1, 2, none⟩) (v := .int .i64 0) (by go_simp); have e3 := hb1.cellv (p := ⟨w.heap.size + 1, 3, none⟩) (v := .int .i64 0) (by go_simp); have e4 := hb1.cellv (p := ⟨w.heap.size + 1, 4, none⟩) (v := .string ⟨#[]⟩) (by go_simp); have ff : ∀ j, w1.frozen? ⟨w.heap.size + 1, j, none⟩ = false := (fun j => (hb1.frz ⟨w.heap.size + 1, j, none⟩ (by simp)).trans (by go_simp)))
    have hk1 := hk0.trans hb1
    rw [HR.out.1, HR.out.2.1, HR.out.2.2]
    refine bodyPost_ret (v := .tuple #[.agg #[.int .i64 0, .int .i64 0, .int .i64 0, .int .i64 0, .string ⟨#[]⟩], .bool false]) (by simp [results, Tryd.results23, go_sem, e0, e1, e2, e3, e4]) rfl ⟨rfl, ?_⟩
    (repeat (first | with_reducible assumption | exact Bw.refl _ | (with_reducible refine Bw.setCell ?_ (by simp) _) | (with_reducible refine Bw.alloc ?_ _) | (with_reducible refine Bw.drew ?_) | (with_reducible refine Bw.drewN ?_ _)))
  · obtain ⟨g1, g2, g3, g4⟩ := swB_iff.1 hg
    have ⟨t0, t1⟩ := inR_iff.1 g1
    have ⟨z0, z1⟩ := inR_iff.1 g2
    have hn6 : n ≤ 6 := by have := hl.out; omega
    have HR := Lib.hid (show k = 5 ∧ u = t ∧ m = aftI t n by rw [← hk, ← hu, ← hm]; simp [stK, stT, leadR, hg, hl.out])
    clear g1 g2 g3 g4 hk hu hm
    go_enter Tryd.func23, Tryd.ntmps23
    go_wp2_with (go_at_call 16; refine (c_IsValidSendWindow t z _ _ _ ss hf hg _ hn (h.keep hk0)).mono ?_; rintro e w1 ⟨rfl, hb1⟩; have d0 := hb1.cellv (p := ⟨w.heap.size, 0, none⟩) (v := .int .i64 t) (by go_simp); have d1 := hb1.cellv (p := ⟨w.heap.size, 1, none⟩) (v := .int .i64 z) (by go_simp); have d2 := hb1.cellv (p := ⟨w.heap.size, 2, none⟩) (v := .slice A n c) (by go_simp); have e0 := hb1.cellv (p := ⟨w.heap.size + 1, 0, none⟩) (v := .int .i64 0) (by go_simp); have e1 := hb1.cellv (p := ⟨w.heap.size + 1, 1, none⟩) (v := .int .i64 0) (by go_simp); have e2 := hb1.cellv (p := ⟨w.heap.size + 1, 2, none⟩) (v := .int .i64 0) (by go_simp); have e3 := hb1.cellv (p := ⟨w.heap.size + 1, 3, none⟩) (v := .int .i64 0) (by go_simp); have e4 := hb1.cellv (p := ⟨w.heap.size + 1, 4, none⟩) (v := .string ⟨#[]⟩) (by go_simp); have ff : ∀ j, w1.frozen? ⟨w.heap.size + 1, j, none⟩ = false := (fun j => (hb1.frz ⟨w.heap.size + 1, j, none⟩ (by simp)).trans (by go_simp)))
    refine (c_status t z _ _ _ rfl t0 t1 hn6 _).mono ?_
    rintro e w2 ⟨rfl, hb2⟩
    have a0 := hb2.cellv e0
    have a1 := hb2.cellv e1
    have a2 := hb2.cellv e2
    have a3 := hb2.cellv e3
    have a4 := hb2.cellv e4
    have fg : ∀ j, w2.frozen? ⟨w.heap.size + 1, j, none⟩ = false := fun j => (hb2.frz ⟨w.heap.size + 1, j, none⟩ (show w.heap.size + 1 < w1.heap.size from World.block_lt_of_cell? w1 ⟨w.heap.size + 1, 0, none⟩ e0)).trans (ff j)
    clear e0 e1 e2 e3 e4 ff d0 d1 d2
    go_wp2_with fail
    have hk2 := (hk0.trans hb1).trans hb2
    rw [HR.out.1, HR.out.2.1, HR.out.2.2]
    refine bodyPost_ret (v := .tuple #[.agg #[.int .i64 5, .int .i64 t, .int .i64 t, .int .i64 (aftI t n), .string ⟨#[]⟩], .bool true]) (by simp [results, Tryd.results23, go_sem, a0, a1, a2, a3, a4]) rfl ⟨rfl, ?_⟩
    (repeat (first | with_reducible assumption | exact Bw.refl _ | (with_reducible refine Bw.setCell ?_ (by simp) _) | (with_reducible refine Bw.alloc ?_ _) | (with_reducible refine Bw.drew ?_) | (with_reducible refine Bw.drewN ?_ _)))
end Go.Proofs.YthdmnngmijbcbaaDoor
