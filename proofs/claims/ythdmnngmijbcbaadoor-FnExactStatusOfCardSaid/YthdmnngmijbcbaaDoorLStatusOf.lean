
/- The law FnExactStatusOf: the walk. -/
import Derived.Test.YthdmnngmijbcbaaDoorS9
import Derived.Deep.RegionHeld3
namespace Go.Proofs.YthdmnngmijbcbaaDoor
open Go.RowKit
set_option maxRecDepth 100000 in
set_option maxHeartbeats 1000000 in
theorem w_StatusOf (t z : Int) (A : Option Addr) (n c : Nat) (ss : List ByteArray) (hf : fitS ss) (w : World) (hm : n ≤ 9223372036854775807) (h : Rd w A n 1 (ss.map scell)) :
    Calls Tryd.prog 6 #[.agg #[.int .i64 t, .int .i64 z, .slice A n c]] w fun e w' => e = .returned (.bool true) ∧ Bw w w' := by
  generalize hk : stK t z ss = k
  generalize hu : stT t z ss = u
  generalize hld : leadR t z ss = ld
  generalize hr : swB t z ss = r
  have HK := Lib.hid hk
  have HU := Lib.hid hu
  have HL := Lib.hid hld
  have HR := Lib.hid hr
  clear hk hu hld hr
  go_enter Tryd.func6, Tryd.ntmps6
  go_wp2_with (go_at_call 13; refine (c_szSendWindow t z _ _ _ ss hf hm _ (h.keep (Bw.alloc (Bw.refl _) _))).mono ?_; rintro e w1 ⟨⟨m, rfl, hmx, hmm⟩, hb1⟩; have d0 := hb1.cellv (p := ⟨w.heap.size, 0, none⟩) (v := .int .i64 t) (by go_simp); have d1 := hb1.cellv (p := ⟨w.heap.size, 1, none⟩) (v := .int .i64 z) (by go_simp); have d2 := hb1.cellv (p := ⟨w.heap.size, 2, none⟩) (v := .slice A n c) (by go_simp))
  · go_ret
    exact ⟨rfl, Bw.trans (Bw.alloc (Bw.refl _) _) hb1⟩
  · have hn : n ≤ 1048576 := by omega
    clear hmm hmx
    have k1 : Bw w w1 := Bw.trans (Bw.alloc (Bw.refl _) _) hb1
    refine (c_toSendWindow t z _ _ _ ss _ hn (h.keep k1)).mono ?_
    rintro e w2 ⟨⟨A2, c2, rfl, row2⟩, hb2⟩
    have e0 := hb2.cellv d0
    have e1 := hb2.cellv d1
    have e2 := hb2.cellv d2
    clear d0 d1 d2
    go_wp2_with fail
    refine (c_sStatusOf t z _ _ _ ss hf HK.out HU.out HL.out HR.out _ hm (row2.rd (fun _ => rfl))).mono ?_
    rintro e w3 ⟨rfl, hb3⟩
    have f0 := hb3.cellv e0
    have f1 := hb3.cellv e1
    have f2 := hb3.cellv e2
    clear e0 e1 e2
    have ka := (k1.trans hb2).trans hb3
    have hs3 : w.heap.size < w3.heap.size := World.block_lt_of_cell? w3 ⟨w.heap.size, 0, none⟩ f0
    have hs3' : ¬ w.heap.size = w3.heap.size := by omega
    have a3 := (Bw.refl w3).alloc (.cells #[.int .i64 k, .int .i64 u, .int .i64 u, .int .i64 ld, .string ⟨#[]⟩] 37)
    have k3 := ka.trans a3
    go_wp2_with fail
    refine (c_toSendWindow t z _ _ _ ss _ hn (h.keep k3)).mono ?_
    rintro e w4 ⟨⟨A4, c4, rfl, row4⟩, hb4⟩
    have p0 := hb4.cellv (p := ⟨w3.heap.size, 0, none⟩) (v := .int .i64 k) (by go_simp)
    have p1 := hb4.cellv (p := ⟨w3.heap.size, 1, none⟩) (v := .int .i64 u) (by go_simp)
    have p2 := hb4.cellv (p := ⟨w3.heap.size, 2, none⟩) (v := .int .i64 u) (by go_simp)
    have p3 := hb4.cellv (p := ⟨w3.heap.size, 3, none⟩) (v := .int .i64 ld) (by go_simp)
    have p4 := hb4.cellv (p := ⟨w3.heap.size, 4, none⟩) (v := .string ⟨#[]⟩) (by go_simp)
    have k34 := a3.trans hb4
    have g0 := k34.cellv f0
    have g1 := k34.cellv f1
    have g2 := k34.cellv f2
    clear f0 f1 f2
    have rd4 := row4.rd (fun _ => rfl)
    have k4 := k3.trans hb4
    go_wp2_with fail
    refine (c_iStatusOf t z _ _ _ ss hf HK.out HU.out HL.out HR.out _ hm (rd4.keep (Bw.alloc (Bw.refl _) _))).mono ?_
    rintro e w5 ⟨rfl, hb5⟩
    have x0 := hb5.cellv (p := ⟨w4.heap.size, 0, none⟩) (v := .int .i64 t) (by go_simp)
    have x1 := hb5.cellv (p := ⟨w4.heap.size, 1, none⟩) (v := .int .i64 z) (by go_simp)
    have x2 := hb5.cellv (p := ⟨w4.heap.size, 2, none⟩) (v := .slice A4 n c4) (by go_simp)
    have k5 : Bw w4 w5 := (Bw.alloc (Bw.refl w4) _).trans hb5
    have y0 := k5.cellv g0
    have y1 := k5.cellv g1
    have y2 := k5.cellv g2
    have r0 := k5.cellv p0
    have r1 := k5.cellv p1
    have r2 := k5.cellv p2
    have r3 := k5.cellv p3
    have r4 := k5.cellv p4
    clear g0 g1 g2 p0 p1 p2 p3 p4
    have hs5 : w.heap.size < w5.heap.size := World.block_lt_of_cell? w5 ⟨w.heap.size, 0, none⟩ y0
    have hs53 : w3.heap.size < w5.heap.size := World.block_lt_of_cell? w5 ⟨w3.heap.size, 0, none⟩ r0
    have hs54 : w4.heap.size < w5.heap.size := World.block_lt_of_cell? w5 ⟨w4.heap.size, 0, none⟩ x0
    have hs5' : ¬ w.heap.size = w5.heap.size := by omega
    have hs53' : ¬ w3.heap.size = w5.heap.size := by omega
    have hs54' : ¬ w4.heap.size = w5.heap.size := by omega
    have a5 := (Bw.refl w5).alloc (.cells #[.int .i64 k, .int .i64 u, .int .i64 u, .int .i64 ld, .string ⟨#[]⟩] 37)
    have z0 := a5.cellv x0
    have z1 := a5.cellv x1
    have z2 := a5.cellv x2
    have v0 := a5.cellv y0
    have v1 := a5.cellv y1
    have v2 := a5.cellv y2
    go_wp2_with fail
    refine (c_eqPacket _ _ _ _ _ _).mono ?_
    rintro e w6 ⟨rfl, hb6⟩
    have k56 := a5.trans hb6
    have s0 := hb6.cellv v0
    have s1 := hb6.cellv v1
    have s2 := hb6.cellv v2
    have u0 := hb6.cellv z0
    have u1 := hb6.cellv z1
    have u2 := hb6.cellv z2
    clear z0 z1 z2 v0 v1 v2 x0 x1 x2 y0 y1 y2 r0 r1 r2 r3 r4
    go_wp2_with fail
    go_region_held3 (fun W => W.cell? ⟨w.heap.size, 0, none⟩ = some (.int .i64 t) ∧ W.cell? ⟨w.heap.size, 1, none⟩ = some (.int .i64 z) ∧ W.cell? ⟨w.heap.size, 2, none⟩ = some (.slice A n c) ∧ W.cell? ⟨w4.heap.size, 0, none⟩ = some (.int .i64 t) ∧ W.cell? ⟨w4.heap.size, 1, none⟩ = some (.int .i64 z) ∧ W.cell? ⟨w4.heap.size, 2, none⟩ = some (.slice A4 n c4) ∧ Bw w6 W) (first | exact ⟨s0, s1, s2, u0, u1, u2, Bw.drew (Bw.refl _)⟩ | exact ⟨hb7.cellv s0, hb7.cellv s1, hb7.cellv s2, hb7.cellv s3, hb7.cellv s4, hb7.cellv s5, hb7b⟩ | exact ⟨hb8.cellv r0, hb8.cellv r1, hb8.cellv r2, hb8.cellv r3, hb8.cellv r4, hb8.cellv r5, hb8b⟩ | (simp_all; done)) (first | ((have hS := ‹World.cell? _ _ = _ ∧ World.cell? _ _ = _ ∧ World.cell? _ _ = _ ∧ World.cell? _ _ = _ ∧ World.cell? _ _ = _ ∧ World.cell? _ _ = _ ∧ Bw w6 _›); (obtain ⟨s0, s1, s2, s3, s4, s5, s6⟩ := hS); (go_at_call 15); refine (c_toSendWindow t z _ _ _ ss _ hn (h.keep (((k4.trans k5).trans k56).trans s6))).mono ?_; rintro e w7 ⟨⟨A7, c7, rfl, row7⟩, hb7⟩; have hb7b := Bw.trans s6 hb7) | ((have hS := ‹World.cell? _ _ = _ ∧ World.cell? _ _ = _ ∧ World.cell? _ _ = _ ∧ World.cell? _ _ = _ ∧ World.cell? _ _ = _ ∧ World.cell? _ _ = _ ∧ Bw w6 _›); (obtain ⟨r0, r1, r2, r3, r4, r5, r6⟩ := hS); (go_at_call 17); refine (c_eqSendWindow t z _ _ _ _ _ ss _ hm (rd4.keep ((k5.trans k56).trans r6)) (row7.rd (fun _ => rfl))).mono ?_; rintro e w8 ⟨rfl, hb8⟩; have hb8b := Bw.trans r6 hb8))
    go_wp2
    go_ret
    exact ⟨rfl, ((k4.trans k5).trans k56).trans hb8b⟩
end Go.Proofs.YthdmnngmijbcbaaDoor
