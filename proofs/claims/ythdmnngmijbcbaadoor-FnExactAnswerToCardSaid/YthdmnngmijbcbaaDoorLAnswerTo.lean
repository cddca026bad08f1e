
/- The law FnExactAnswerTo: the walk. -/
import Derived.Test.YthdmnngmijbcbaaDoorS11
import Derived.Deep.RegionHeld3
namespace Go.Proofs.YthdmnngmijbcbaaDoor
open Go.RowKit
theorem keep8 {w1 W : World} {p0 p1 p2 p3 p4 p5 p6 p7 : Addr} {v0 v1 v2 v3 v4 v5 v6 v7 : Value} (d0 : w1.cell? p0 = some v0) (d1 : w1.cell? p1 = some v1) (d2 : w1.cell? p2 = some v2) (d3 : w1.cell? p3 = some v3) (d4 : w1.cell? p4 = some v4) (d5 : w1.cell? p5 = some v5) (d6 : w1.cell? p6 = some v6) (d7 : w1.cell? p7 = some v7) (hh : Bw w1 W) :
    W.cell? p0 = some v0 ∧ W.cell? p1 = some v1 ∧ W.cell? p2 = some v2 ∧ W.cell? p3 = some v3 ∧ W.cell? p4 = some v4 ∧ W.cell? p5 = some v5 ∧ W.cell? p6 = some v6 ∧ W.cell? p7 = some v7 ∧ Bw w1 W := ⟨hh.cellv d0, hh.cellv d1, hh.cellv d2, hh.cellv d3, hh.cellv d4, hh.cellv d5, hh.cellv d6, hh.cellv d7, hh⟩
theorem keep6 {w1 W : World} {p0 p1 p2 p3 p4 p5 : Addr} {v0 v1 v2 v3 v4 v5 : Value} (d0 : w1.cell? p0 = some v0) (d1 : w1.cell? p1 = some v1) (d2 : w1.cell? p2 = some v2) (d3 : w1.cell? p3 = some v3) (d4 : w1.cell? p4 = some v4) (d5 : w1.cell? p5 = some v5) (hh : Bw w1 W) :
    W.cell? p0 = some v0 ∧ W.cell? p1 = some v1 ∧ W.cell? p2 = some v2 ∧ W.cell? p3 = some v3 ∧ W.cell? p4 = some v4 ∧ W.cell? p5 = some v5 ∧ Bw w1 W := ⟨hh.cellv d0, hh.cellv d1, hh.cellv d2, hh.cellv d3, hh.cellv d4, hh.cellv d5, hh⟩
/-- An empty packet of the call's own. -/
structure Zb (b : Nat) (W : World) : Prop where
  c0 : W.cell? ⟨b, 0, none⟩ = some (.int .i64 0)
  c1 : W.cell? ⟨b, 1, none⟩ = some (.int .i64 0)
  c2 : W.cell? ⟨b, 2, none⟩ = some (.int .i64 0)
  c3 : W.cell? ⟨b, 3, none⟩ = some (.int .i64 0)
  c4 : W.cell? ⟨b, 4, none⟩ = some (.string ⟨#[]⟩)
  ff : ∀ j, W.frozen? ⟨b, j, none⟩ = false
theorem Zb.keep {b : Nat} {W W' : World} (h : Zb b W) (hb : Bw W W') : Zb b W' :=
  ⟨hb.cellv h.c0, hb.cellv h.c1, hb.cellv h.c2, hb.cellv h.c3, hb.cellv h.c4, fun j => (hb.frz ⟨b, j, none⟩ (show b < W.heap.size from World.block_lt_of_cell? W ⟨b, 0, none⟩ h.c0)).trans (h.ff j)⟩
theorem Zb.use {b : Nat} {W : World} {R : Prop} (hz : Zb b W) (k : Zb b W → R) : R := k hz
structure Pb (b : Nat) (ra rb rc re : Int) (rf : ByteArray) (W : World) : Prop where
  c0 : W.cell? ⟨b, 0, none⟩ = some (.int .i64 ra)
  c1 : W.cell? ⟨b, 1, none⟩ = some (.int .i64 rb)
  c2 : W.cell? ⟨b, 2, none⟩ = some (.int .i64 rc)
  c3 : W.cell? ⟨b, 3, none⟩ = some (.int .i64 re)
  c4 : W.cell? ⟨b, 4, none⟩ = some (.string rf)
theorem Pb.keep {b : Nat} {ra rb rc re : Int} {rf : ByteArray} {W W' : World} (h : Pb b ra rb rc re rf W) (hb : Bw W W') : Pb b ra rb rc re rf W' := ⟨hb.cellv h.c0, hb.cellv h.c1, hb.cellv h.c2, hb.cellv h.c3, hb.cellv h.c4⟩
theorem Pb.use {b : Nat} {ra rb rc re : Int} {rf : ByteArray} {W : World} {R : Prop} (hz : Pb b ra rb rc re rf W) (k : Pb b ra rb rc re rf W → R) : R := k hz
theorem world_gen {R : World → Prop} {W : World} (h : ∀ X, X = W → R X) : R W := h W rfl
set_option maxRecDepth 100000 in
set_option maxHeartbeats 8000000 in
theorem w_AnswerTo (t z : Int) (A : Option Addr) (n c : Nat) (ss : List ByteArray) (hf : fitS ss) (k nu tr le : Int) (d : ByteArray) (hd : d.size ≤ maxLen) (w : World) (hm : n ≤ 9223372036854775807) (h : Rd w A n 1 (ss.map scell)) :
    Calls Tryd.prog 7 #[.agg #[.int .i64 t, .int .i64 z, .slice A n c], .agg #[.int .i64 k, .int .i64 nu, .int .i64 tr, .int .i64 le, .string d]] w fun e w' => e = .returned (.bool true) ∧ Bw w w' := by
  obtain ⟨ra, rb, rc, re, rf, hv⟩ := ans_form t z ss k nu tr le d
  generalize hr : ansC t z ss k nu tr le d = r
  have HV := Lib.hid hv
  have HR := Lib.hid hr
  clear hv hr
  have ha : Bw w ((w.alloc (.cells #[.int .i64 t, .int .i64 z, .slice A n c] 24)).alloc (.cells #[.int .i64 k, .int .i64 nu, .int .i64 tr, .int .i64 le, .string d] 41)) := by (repeat (first | with_reducible assumption | exact Bw.refl _ | (with_reducible refine Bw.setCell ?_ (by simp) _) | (with_reducible refine Bw.alloc ?_ _) | (with_reducible refine Bw.drew ?_) | (with_reducible refine Bw.drewN ?_ _)))
  go_enter Tryd.func7, Tryd.ntmps7
  go_wp2_with (go_at_call 13; refine (c_szSendWindow t z _ _ _ ss hf hm _ (h.keep ha)).mono ?_; rintro e w1 ⟨⟨m, rfl, hmx, hmm⟩, hb1⟩; have d0 := hb1.cellv (p := ⟨w.heap.size, 0, none⟩) (v := .int .i64 t) (by go_simp); have d1 := hb1.cellv (p := ⟨w.heap.size, 1, none⟩) (v := .int .i64 z) (by go_simp); have d2 := hb1.cellv (p := ⟨w.heap.size, 2, none⟩) (v := .slice A n c) (by go_simp); have p0 := hb1.cellv (p := ⟨w.heap.size + 1, 0, none⟩) (v := .int .i64 k) (by go_simp); have p1 := hb1.cellv (p := ⟨w.heap.size + 1, 1, none⟩) (v := .int .i64 nu) (by go_simp); have p2 := hb1.cellv (p := ⟨w.heap.size + 1, 2, none⟩) (v := .int .i64 tr) (by go_simp); have p3 := hb1.cellv (p := ⟨w.heap.size + 1, 3, none⟩) (v := .int .i64 le) (by go_simp); have p4 := hb1.cellv (p := ⟨w.heap.size + 1, 4, none⟩) (v := .string d) (by go_simp))
  · go_ret
    exact ⟨rfl, ha.trans hb1⟩
  · have hn : n ≤ 1048576 := by omega
    have k1 := ha.trans hb1
    refine (c_szPacket k nu tr le d hd m (by omega) (by omega) _).mono ?_
    rintro e w2 ⟨⟨m2, rfl⟩, hb2⟩
    have k2 := k1.trans hb2
    replace d0 := hb2.cellv d0
    replace d1 := hb2.cellv d1
    replace d2 := hb2.cellv d2
    replace p0 := hb2.cellv p0
    replace p1 := hb2.cellv p1
    replace p2 := hb2.cellv p2
    replace p3 := hb2.cellv p3
    replace p4 := hb2.cellv p4
    go_wp2_with fail
    · go_ret
      exact ⟨rfl, k2⟩
    go_region_held3 (fun W => W.cell? ⟨w.heap.size, 0, none⟩ = some (.int .i64 t) ∧ W.cell? ⟨w.heap.size, 1, none⟩ = some (.int .i64 z) ∧ W.cell? ⟨w.heap.size, 2, none⟩ = some (.slice A n c) ∧ W.cell? ⟨w.heap.size + 1, 0, none⟩ = some (.int .i64 k) ∧ W.cell? ⟨w.heap.size + 1, 1, none⟩ = some (.int .i64 nu) ∧ W.cell? ⟨w.heap.size + 1, 2, none⟩ = some (.int .i64 tr) ∧ W.cell? ⟨w.heap.size + 1, 3, none⟩ = some (.int .i64 le) ∧ W.cell? ⟨w.heap.size + 1, 4, none⟩ = some (.string d) ∧ Bw w2 W) (first | (refine keep8 d0 d1 d2 p0 p1 p2 p3 p4 ?_; (repeat (first | with_reducible assumption | exact Bw.refl _ | (with_reducible refine Bw.setCell ?_ (by dsimp only; omega) _) | (with_reducible refine Bw.alloc ?_ _) | (with_reducible refine Bw.drew ?_) | (with_reducible refine Bw.drewN ?_ _))); done)) (first | ((have hS := ‹World.cell? _ _ = _ ∧ World.cell? _ _ = _ ∧ World.cell? _ _ = _ ∧ World.cell? _ _ = _ ∧ World.cell? _ _ = _ ∧ World.cell? _ _ = _ ∧ World.cell? _ _ = _ ∧ World.cell? _ _ = _ ∧ Bw w2 _›); (have hbS := hS.2.2.2.2.2.2.2.2); clear hS; (go_at_call 15); refine (c_toSendWindow t z _ _ _ ss _ hn (h.keep (k2.trans hbS))).mono ?_; rintro e wT ⟨⟨AT, cT, rfl, rowT⟩, hbT0⟩; have hbT := hbS.trans hbT0; have hsT := hbT.size; (try (refine Zb.use (b := w2.heap.size) (W := wT) ?_ ?_; (focus (refine Zb.keep ?_ hbT0; constructor <;> (go_simp; done))); intro zz; obtain ⟨z0, z1, z2, z3, z4, zf⟩ := zz))) | ((have hS := ‹World.cell? _ _ = _ ∧ World.cell? _ _ = _ ∧ World.cell? _ _ = _ ∧ World.cell? _ _ = _ ∧ World.cell? _ _ = _ ∧ World.cell? _ _ = _ ∧ World.cell? _ _ = _ ∧ World.cell? _ _ = _ ∧ Bw w2 _›); (have hbS := hS.2.2.2.2.2.2.2.2); clear hS; (go_at_call 27); refine (c_toPacket k nu tr le d _).mono ?_; rintro e wU ⟨rfl, hbU0⟩; have hbU := hbS.trans hbU0; have hTU : Bw wT wU := Bw.trans (by ((repeat (first | with_reducible assumption | exact Bw.refl _ | (with_reducible refine Bw.setCell ?_ (by dsimp only; omega) _) | (with_reducible refine Bw.alloc ?_ _) | (with_reducible refine Bw.drew ?_) | (with_reducible refine Bw.drewN ?_ _)))); done) hbU0; have hsU := hbU.size; have hsU0 := hbU0.size; first | (refine Zb.use (b := w2.heap.size) (W := wU) ?_ ?_; (focus (refine Zb.keep ⟨z0, z1, z2, z3, z4, zf⟩ hbU0)); intro zz; obtain ⟨z0, z1, z2, z3, z4, zf⟩ := zz) | (refine Zb.use (b := wT.heap.size) (W := wU) ?_ ?_; (focus (refine Zb.keep ?_ hbU0; constructor <;> (go_simp; done))); intro zz; obtain ⟨z0, z1, z2, z3, z4, zf⟩ := zz) | skip) | ((have hS := ‹World.cell? _ _ = _ ∧ World.cell? _ _ = _ ∧ World.cell? _ _ = _ ∧ World.cell? _ _ = _ ∧ World.cell? _ _ = _ ∧ World.cell? _ _ = _ ∧ World.cell? _ _ = _ ∧ World.cell? _ _ = _ ∧ Bw w2 _›); (have hbS := hS.2.2.2.2.2.2.2.2); clear hS; (go_at_call 26); refine (c_sAnswerTo t z _ _ _ ss hf k nu tr le d hd HV.out HR.out _ hm ((rowT.rd (fun _ => rfl)).keep (by ((repeat (first | with_reducible assumption | exact Bw.refl _ | (with_reducible refine Bw.setCell ?_ (by dsimp only; omega) _) | (with_reducible refine Bw.alloc ?_ _) | (with_reducible refine Bw.drew ?_) | (with_reducible refine Bw.drewN ?_ _)))); done))).mono ?_; rintro e wV ⟨rfl, hbV0⟩; have hbV := hbS.trans hbV0; have hsV := hbV.size; have hsV0 := hbV0.size; first | (refine Zb.use (b := w2.heap.size) (W := wV) ?_ ?_; (focus (refine Zb.keep ⟨z0, z1, z2, z3, z4, zf⟩ hbV0)); intro zz; obtain ⟨z0, z1, z2, z3, z4, zf⟩ := zz) | (refine Zb.use (b := wT.heap.size) (W := wV) ?_ ?_; (focus (refine Zb.keep ⟨z0, z1, z2, z3, z4, zf⟩ hbV0)); intro zz; obtain ⟨z0, z1, z2, z3, z4, zf⟩ := zz) | (refine Zb.use (b := wU.heap.size) (W := wV) ?_ ?_; (focus (refine Zb.keep ?_ hbV0; constructor <;> (go_simp; done))); intro zz; obtain ⟨z0, z1, z2, z3, z4, zf⟩ := zz) | skip) | fail)
    all_goals
      refine world_gen (R := fun X => Exit.then _ _ _ _ X) ?_
      intro Wf hWf
      have hbF : Bw w2 Wf := by subst hWf; ((repeat (first | with_reducible assumption | exact Bw.refl _ | (with_reducible refine Bw.setCell ?_ (by dsimp only; omega) _) | (with_reducible refine Bw.alloc ?_ _) | (with_reducible refine Bw.drew ?_) | (with_reducible refine Bw.drewN ?_ _))))
      (first | (refine Pb.use (b := w2.heap.size) (ra := ra) (rb := rb) (rc := rc) (re := re) (rf := rf) (W := Wf) ?_ ?_; (focus (subst hWf; constructor <;> (go_simp; done)))) | (refine Pb.use (b := wT.heap.size) (ra := ra) (rb := rb) (rc := rc) (re := re) (rf := rf) (W := Wf) ?_ ?_; (focus (subst hWf; constructor <;> (go_simp; done)))) | (refine Pb.use (b := wU.heap.size) (ra := ra) (rb := rb) (rc := rc) (re := re) (rf := rf) (W := Wf) ?_ ?_; (focus (subst hWf; constructor <;> (go_simp; done)))) | (refine Pb.use (b := wV.heap.size) (ra := ra) (rb := rb) (rc := rc) (re := re) (rf := rf) (W := Wf) ?_ ?_; (focus (subst hWf; constructor <;> (go_simp; done)))))
      intro PB
      clear hWf
      have k2F := k2.trans hbF
      have f0 := hbF.cellv d0
      have f1 := hbF.cellv d1
      have f2 := hbF.cellv d2
      have q0 := hbF.cellv p0
      have q1 := hbF.cellv p1
      have q2 := hbF.cellv p2
      have q3 := hbF.cellv p3
      have q4 := hbF.cellv p4
      go_wp2_with fail
      refine (c_toSendWindow t z _ _ _ ss _ hn (h.keep k2F)).mono ?_
      rintro e w4 ⟨⟨A4, c4, rfl, row4⟩, hb4⟩
      have rd4 := row4.rd (fun _ => rfl)
      have a4 := (Bw.refl w4).alloc (.cells #[.int .i64 t, .int .i64 z, .slice A4 n c4] 27)
      have x0 : (w4.alloc (.cells #[.int .i64 t, .int .i64 z, .slice A4 n c4] 27)).cell? ⟨w4.heap.size, 0, none⟩ = some (.int .i64 t) := by go_simp
      have x1 : (w4.alloc (.cells #[.int .i64 t, .int .i64 z, .slice A4 n c4] 27)).cell? ⟨w4.heap.size, 1, none⟩ = some (.int .i64 z) := by go_simp
      have x2 : (w4.alloc (.cells #[.int .i64 t, .int .i64 z, .slice A4 n c4] 27)).cell? ⟨w4.heap.size, 2, none⟩ = some (.slice A4 n c4) := by go_simp
      go_wp2_with fail
      generalize w4.alloc (.cells #[.int .i64 t, .int .i64 z, .slice A4 n c4] 27) = w5 at a4 x0 x1 x2 ⊢
      have k45 := hb4.trans a4
      have PB5 := PB.keep k45
      have g0 := k45.cellv f0
      have g1 := k45.cellv f1
      have g2 := k45.cellv f2
      have s0 := k45.cellv q0
      have s1 := k45.cellv q1
      have s2 := k45.cellv q2
      have s3 := k45.cellv q3
      have s4 := k45.cellv q4
      have k5 := k2F.trans k45
      clear PB f0 f1 f2 q0 q1 q2 q3 q4
      (try clear z0 z1 z2 z3 z4 zf)
      go_region_held3 (fun W => W.cell? ⟨w4.heap.size, 0, none⟩ = some (.int .i64 t) ∧ W.cell? ⟨w4.heap.size, 1, none⟩ = some (.int .i64 z) ∧ W.cell? ⟨w4.heap.size, 2, none⟩ = some (.slice A4 n c4) ∧ W.cell? ⟨w.heap.size + 1, 0, none⟩ = some (.int .i64 k) ∧ W.cell? ⟨w.heap.size + 1, 1, none⟩ = some (.int .i64 nu) ∧ W.cell? ⟨w.heap.size + 1, 2, none⟩ = some (.int .i64 tr) ∧ W.cell? ⟨w.heap.size + 1, 3, none⟩ = some (.int .i64 le) ∧ W.cell? ⟨w.heap.size + 1, 4, none⟩ = some (.string d) ∧ Bw w5 W) (first | (refine keep8 x0 x1 x2 s0 s1 s2 s3 s4 ?_; (repeat (first | with_reducible assumption | exact Bw.refl _ | (with_reducible refine Bw.setCell ?_ (by dsimp only; omega) _) | (with_reducible refine Bw.alloc ?_ _) | (with_reducible refine Bw.drew ?_) | (with_reducible refine Bw.drewN ?_ _))); done)) (first | ((have hS := ‹World.cell? _ _ = _ ∧ World.cell? _ _ = _ ∧ World.cell? _ _ = _ ∧ World.cell? _ _ = _ ∧ World.cell? _ _ = _ ∧ World.cell? _ _ = _ ∧ World.cell? _ _ = _ ∧ World.cell? _ _ = _ ∧ Bw w5 _›); (have hbS := hS.2.2.2.2.2.2.2.2); clear hS; (go_at_call 27); refine (c_toPacket k nu tr le d _).mono ?_; rintro e wX ⟨rfl, hbX0⟩; have hbX := hbS.trans hbX0; have hsX := hbX.size; first | (refine Zb.use (b := w5.heap.size) (W := wX) ?_ ?_; (focus (refine Zb.keep ?_ hbX0; constructor <;> (go_simp; done))); intro zz; obtain ⟨z0, z1, z2, z3, z4, zf⟩ := zz) | skip) | ((have hS := ‹World.cell? _ _ = _ ∧ World.cell? _ _ = _ ∧ World.cell? _ _ = _ ∧ World.cell? _ _ = _ ∧ World.cell? _ _ = _ ∧ World.cell? _ _ = _ ∧ World.cell? _ _ = _ ∧ World.cell? _ _ = _ ∧ Bw w5 _›); (have hbS := hS.2.2.2.2.2.2.2.2); clear hS; (go_at_call 28); refine (c_iAnswerTo t z _ _ _ ss hf k nu tr le d hd HV.out HR.out _ hm ((rd4.keep a4).keep hbS)).mono ?_; rintro e wY ⟨rfl, hbY0⟩; have hbY := hbS.trans hbY0; have hsY := hbY.size; have hsY0 := hbY0.size; first | (refine Zb.use (b := w5.heap.size) (W := wY) ?_ ?_; (focus (refine Zb.keep ⟨z0, z1, z2, z3, z4, zf⟩ hbY0)); intro zz; obtain ⟨z0, z1, z2, z3, z4, zf⟩ := zz) | (refine Zb.use (b := wX.heap.size) (W := wY) ?_ ?_; (focus (refine Zb.keep ?_ hbY0; constructor <;> (go_simp; done))); intro zz; obtain ⟨z0, z1, z2, z3, z4, zf⟩ := zz) | skip) | fail)
      all_goals
        refine world_gen (R := fun X => Exit.then _ _ _ _ X) ?_
        intro Wg hWg
        have hbG : Bw w5 Wg := by subst hWg; ((repeat (first | with_reducible assumption | exact Bw.refl _ | (with_reducible refine Bw.setCell ?_ (by dsimp only; omega) _) | (with_reducible refine Bw.alloc ?_ _) | (with_reducible refine Bw.drew ?_) | (with_reducible refine Bw.drewN ?_ _))))
        (first | (refine Pb.use (b := w5.heap.size) (ra := ra) (rb := rb) (rc := rc) (re := re) (rf := rf) (W := Wg) ?_ ?_; (focus (subst hWg; constructor <;> (go_simp; done)))) | (refine Pb.use (b := wX.heap.size) (ra := ra) (rb := rb) (rc := rc) (re := re) (rf := rf) (W := Wg) ?_ ?_; (focus (subst hWg; constructor <;> (go_simp; done)))) | (refine Pb.use (b := wY.heap.size) (ra := ra) (rb := rb) (rc := rc) (re := re) (rf := rf) (W := Wg) ?_ ?_; (focus (subst hWg; constructor <;> (go_simp; done)))))
        intro PG
        clear hWg
        have ⟨j0, j1, j2, j3, j4⟩ := PB5.keep hbG
        have ⟨i0, i1, i2, i3, i4⟩ := PG
        go_wp2_with fail
        refine (c_eqPacket _ _ _ _ _ _).mono ?_
        rintro e w6 ⟨rfl, hb6⟩
        have k56 := hbG.trans hb6
        have k6 := k5.trans k56
        have v0 := k56.cellv g0
        have v1 := k56.cellv g1
        have v2 := k56.cellv g2
        have u0 := k56.cellv x0
        have u1 := k56.cellv x1
        have u2 := k56.cellv x2
        clear j0 j1 j2 j3 j4 i0 i1 i2 i3 i4
        (try clear z0 z1 z2 z3 z4 zf)
        go_wp2_with fail
        go_region_held3 (fun W => W.cell? ⟨w.heap.size, 0, none⟩ = some (.int .i64 t) ∧ W.cell? ⟨w.heap.size, 1, none⟩ = some (.int .i64 z) ∧ W.cell? ⟨w.heap.size, 2, none⟩ = some (.slice A n c) ∧ W.cell? ⟨w4.heap.size, 0, none⟩ = some (.int .i64 t) ∧ W.cell? ⟨w4.heap.size, 1, none⟩ = some (.int .i64 z) ∧ W.cell? ⟨w4.heap.size, 2, none⟩ = some (.slice A4 n c4) ∧ Bw w6 W) (first | (refine keep6 v0 v1 v2 u0 u1 u2 ?_; (repeat (first | with_reducible assumption | exact Bw.refl _ | (with_reducible refine Bw.setCell ?_ (by dsimp only; omega) _) | (with_reducible refine Bw.alloc ?_ _) | (with_reducible refine Bw.drew ?_) | (with_reducible refine Bw.drewN ?_ _))); done)) (first | ((have hS := ‹World.cell? _ _ = _ ∧ World.cell? _ _ = _ ∧ World.cell? _ _ = _ ∧ World.cell? _ _ = _ ∧ World.cell? _ _ = _ ∧ World.cell? _ _ = _ ∧ Bw w6 _›); (have hbS := hS.2.2.2.2.2.2); clear hS; (go_at_call 15); refine (c_toSendWindow t z _ _ _ ss _ hn (h.keep (k6.trans hbS))).mono ?_; rintro e w7 ⟨⟨A7, c7, rfl, row7⟩, hb70⟩; have hb7 := hbS.trans hb70) | ((have hS := ‹World.cell? _ _ = _ ∧ World.cell? _ _ = _ ∧ World.cell? _ _ = _ ∧ World.cell? _ _ = _ ∧ World.cell? _ _ = _ ∧ World.cell? _ _ = _ ∧ Bw w6 _›); (have hbS := hS.2.2.2.2.2.2); clear hS; (go_at_call 17); refine (c_eqSendWindow t z _ _ _ _ _ ss _ hm ((rd4.keep a4).keep (k56.trans hbS)) (row7.rd (fun _ => rfl))).mono ?_; rintro e w8 ⟨rfl, hb80⟩; have hb8 := hbS.trans hb80) | fail)
        go_wp2_with fail
        go_ret
        exact ⟨rfl, k6.trans hb8⟩
end Go.Proofs.YthdmnngmijbcbaaDoor
