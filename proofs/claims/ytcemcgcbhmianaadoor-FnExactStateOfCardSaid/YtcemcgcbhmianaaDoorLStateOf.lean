
/- The law FnExactStateOf: the walk. -/
import Derived.Test.YtcemcgcbhmianaaDoorU5
import Derived.Deep.RegionHeld3
namespace Go.Proofs.YtcemcgcbhmianaaDoor
open Go.RowKit
set_option maxRecDepth 100000 in
set_option maxHeartbeats 1000000 in
theorem w_StateOf (st : Bool) (ck t : Int) (A : Option Addr) (n c : Nat) (ts : List Slot) (hf : fitL ts) (B : Option Addr) (m d : Nat) (rs : List Request) (x : Int) (w : World) (hn0 : n ≤ 9223372036854775807) (hm0 : m ≤ 9223372036854775807) (h : Rd w A n 2 (ts.map Slot.cells)) (hh : Rd w B m 4 (rs.map Request.cells)) :
    Calls Tryd.prog 11 #[.agg #[.bool st, .int .i64 ck, .int .i64 t, .slice A n c, .slice B m d], .int .i64 x] w fun e w' => e = .returned (.bool true) ∧ Bw w w' := by
  generalize hr : stC st ck t ts rs x = r
  generalize hv : stR st ck t ts rs x = v
  have HV := Lib.hid hv
  clear hv
  have HR := Lib.hid hr
  clear hr
  go_enter Tryd.func11, Tryd.ntmps11
  go_wp2_with (go_at_call 33; refine (c_szReceiver st ck t _ _ _ ts hf _ _ _ hn0 hm0 _ (h.keep (Bw.alloc (Bw.refl _) _))).mono ?_; rintro e w1 ⟨⟨szx, rfl, hmm⟩, hb1⟩; have d0 := hb1.cellv (p := ⟨w.heap.size, 0, none⟩) (v := .bool st) (by go_simp); have d1 := hb1.cellv (p := ⟨w.heap.size, 1, none⟩) (v := .int .i64 ck) (by go_simp); have d2 := hb1.cellv (p := ⟨w.heap.size, 2, none⟩) (v := .int .i64 t) (by go_simp); have d3 := hb1.cellv (p := ⟨w.heap.size, 3, none⟩) (v := .slice A n c) (by go_simp); have d4 := hb1.cellv (p := ⟨w.heap.size, 4, none⟩) (v := .slice B m d) (by go_simp))
  · go_ret
    exact ⟨rfl, Bw.trans (Bw.alloc (Bw.refl _) _) hb1⟩
  · have hn : n ≤ 1048576 := by omega
    have hm : m ≤ 1048576 := by omega
    clear hmm
    have k1 : Bw w w1 := Bw.trans (Bw.alloc (Bw.refl _) _) hb1
    refine (c_toReceiver st ck t _ _ _ ts _ _ _ rs _ hn hm (h.keep k1) (hh.keep k1)).mono ?_
    rintro e w2 ⟨⟨A2, c2, B2, dd2, rfl, row2, rowh2⟩, hb2⟩
    have e0 := hb2.cellv d0
    have e1 := hb2.cellv d1
    have e2 := hb2.cellv d2
    have e3 := hb2.cellv d3
    have e4 := hb2.cellv d4
    clear d0 d1 d2 d3 d4
    go_wp2_with fail
    refine (c_sStateOf st ck t _ _ _ ts hf _ _ _ rs x HV.out HR.out _ hn0 hm0 (row2.rd (fun _ => rfl)) (rowh2.rd (fun _ => rfl))).mono ?_
    rintro e w3 ⟨rfl, hb3⟩
    have f0 := hb3.cellv e0
    have f1 := hb3.cellv e1
    have f2 := hb3.cellv e2
    have f3 := hb3.cellv e3
    have f4 := hb3.cellv e4
    clear e0 e1 e2 e3 e4
    have k3 := (k1.trans hb2).trans hb3
    go_wp2_with fail
    refine (c_toReceiver st ck t _ _ _ ts _ _ _ rs _ hn hm (h.keep k3) (hh.keep k3)).mono ?_
    rintro e w4 ⟨⟨A4, c4, B4, dd4, rfl, row4, rowh4⟩, hb4⟩
    have g0 := hb4.cellv f0
    have g1 := hb4.cellv f1
    have g2 := hb4.cellv f2
    have g3 := hb4.cellv f3
    have g4 := hb4.cellv f4
    clear f0 f1 f2 f3 f4
    have rd4 := row4.rd (fun _ => rfl)
    have rh4 := rowh4.rd (fun _ => rfl)
    have k4 := k3.trans hb4
    go_wp2_with fail
    refine (c_iStateOf st ck t _ _ _ ts hf _ _ _ rs x HV.out HR.out _ hn0 hm0 (rd4.keep (Bw.alloc (Bw.refl _) _)) (rh4.keep (Bw.alloc (Bw.refl _) _))).mono ?_
    rintro e w5 ⟨rfl, hb5⟩
    have x0 := hb5.cellv (p := ⟨w4.heap.size, 0, none⟩) (v := .bool st) (by go_simp)
    have x1 := hb5.cellv (p := ⟨w4.heap.size, 1, none⟩) (v := .int .i64 ck) (by go_simp)
    have x2 := hb5.cellv (p := ⟨w4.heap.size, 2, none⟩) (v := .int .i64 t) (by go_simp)
    have x3 := hb5.cellv (p := ⟨w4.heap.size, 3, none⟩) (v := .slice A4 n c4) (by go_simp)
    have x4 := hb5.cellv (p := ⟨w4.heap.size, 4, none⟩) (v := .slice B4 m dd4) (by go_simp)
    have k5 : Bw w4 w5 := (Bw.alloc (Bw.refl w4) _).trans hb5
    have y0 := k5.cellv g0
    have y1 := k5.cellv g1
    have y2 := k5.cellv g2
    have y3 := k5.cellv g3
    have y4 := k5.cellv g4
    clear g0 g1 g2 g3 g4
    go_wp2_with fail
    go_region_held3 (fun W => W.cell? ⟨w.heap.size, 0, none⟩ = some (.bool st) ∧ W.cell? ⟨w.heap.size, 1, none⟩ = some (.int .i64 ck) ∧ W.cell? ⟨w.heap.size, 2, none⟩ = some (.int .i64 t) ∧ W.cell? ⟨w.heap.size, 3, none⟩ = some (.slice A n c) ∧ W.cell? ⟨w.heap.size, 4, none⟩ = some (.slice B m d) ∧ W.cell? ⟨w4.heap.size, 0, none⟩ = some (.bool st) ∧ W.cell? ⟨w4.heap.size, 1, none⟩ = some (.int .i64 ck) ∧ W.cell? ⟨w4.heap.size, 2, none⟩ = some (.int .i64 t) ∧ W.cell? ⟨w4.heap.size, 3, none⟩ = some (.slice A4 n c4) ∧ W.cell? ⟨w4.heap.size, 4, none⟩ = some (.slice B4 m dd4) ∧ Bw w5 W) (first | exact ⟨y0, y1, y2, y3, y4, x0, x1, x2, x3, x4, Bw.drew (Bw.refl _)⟩ | exact ⟨hb6.cellv s0, hb6.cellv s1, hb6.cellv s2, hb6.cellv s3, hb6.cellv s4, hb6.cellv s5, hb6.cellv s6, hb6.cellv s7, hb6.cellv s8, hb6.cellv s9, hb6b⟩ | exact ⟨hb7.cellv r0, hb7.cellv r1, hb7.cellv r2, hb7.cellv r3, hb7.cellv r4, hb7.cellv r5, hb7.cellv r6, hb7.cellv r7, hb7.cellv r8, hb7.cellv r9, hb7b⟩ | (simp_all; done)) (first | ((have hS := ‹World.cell? _ _ = _ ∧ World.cell? _ _ = _ ∧ World.cell? _ _ = _ ∧ World.cell? _ _ = _ ∧ World.cell? _ _ = _ ∧ World.cell? _ _ = _ ∧ World.cell? _ _ = _ ∧ World.cell? _ _ = _ ∧ World.cell? _ _ = _ ∧ World.cell? _ _ = _ ∧ Bw w5 _›); (obtain ⟨s0, s1, s2, s3, s4, s5, s6, s7, s8, s9, s99⟩ := hS); (go_at_call 35); refine (c_toReceiver st ck t _ _ _ ts _ _ _ rs _ hn hm (h.keep ((k4.trans k5).trans s99)) (hh.keep ((k4.trans k5).trans s99))).mono ?_; rintro e w6 ⟨⟨A6, c6, B6, dd6, rfl, row6, rowh6⟩, hb6⟩; have hb6b := Bw.trans s99 hb6) | ((have hS := ‹World.cell? _ _ = _ ∧ World.cell? _ _ = _ ∧ World.cell? _ _ = _ ∧ World.cell? _ _ = _ ∧ World.cell? _ _ = _ ∧ World.cell? _ _ = _ ∧ World.cell? _ _ = _ ∧ World.cell? _ _ = _ ∧ World.cell? _ _ = _ ∧ World.cell? _ _ = _ ∧ Bw w5 _›); (obtain ⟨r0, r1, r2, r3, r4, r5, r6, r7, r8, r9, r99⟩ := hS); (go_at_call 37); refine (c_eqReceiver st ck t _ _ _ _ _ ts _ _ _ _ _ rs _ hn0 hm0 (rd4.keep (k5.trans r99)) (row6.rd (fun _ => rfl)) (rh4.keep (k5.trans r99)) (rowh6.rd (fun _ => rfl))).mono ?_; rintro e w7 ⟨rfl, hb7⟩; have hb7b := Bw.trans r99 hb7))
    go_wp2
    go_ret
    exact ⟨rfl, (k4.trans k5).trans hb7b⟩
end Go.Proofs.YtcemcgcbhmianaaDoor
