
/- The law FnExactCountFates: the walk. -/
import Derived.Test.YtilgllbojdkhhaaDoorN7
import Derived.Deep.RegionHeld3
namespace Go.Proofs.YtilgllbojdkhhaaDoor
open Go.RowKit
set_option maxRecDepth 100000 in
set_option maxHeartbeats 1000000 in
theorem w_CountFates (A : Option Addr) (n c : Nat) (ss : List ByteArray) (hf : fitS ss) (f : ByteArray) (hfs : f.size ≤ maxLen) (u : Int) (w : World) (hm : n ≤ 9223372036854775807) (h : Rd w A n 1 (ss.map scell)) :
    Calls Tryd.prog 7 #[.agg #[.slice A n c, .string f, .int .i64 u]] w fun e w' => e = .returned (.bool true) ∧ Bw w w' := by
  have hlen : (cfL ss f u).length ≤ 4 := cfL_len ss f u
  have HS := Lib.hid (fun A c W => c_sCountFates A n c ss hf f hfs u W)
  have HI := Lib.hid (fun A c W => c_iCountFates A n c ss hf f hfs u W)
  generalize cfL ss f u = L at *
  generalize lkB ss f u = rb at *
  go_enter Tryd.func7, Tryd.ntmps7
  go_wp2_with (go_at_call 9; refine (c_szLink _ _ _ ss hf f hfs u hm _ (h.keep (Bw.alloc (Bw.refl _) _))).mono ?_; rintro e w1 ⟨⟨m, rfl, hmm⟩, hb1⟩; have d0 := hb1.cellv (p := ⟨w.heap.size, 0, none⟩) (v := .slice A n c) (by go_simp); have d1 := hb1.cellv (p := ⟨w.heap.size, 1, none⟩) (v := .string f) (by go_simp); have d2 := hb1.cellv (p := ⟨w.heap.size, 2, none⟩) (v := .int .i64 u) (by go_simp))
  · go_ret
    exact ⟨rfl, Bw.trans (Bw.alloc (Bw.refl _) _) hb1⟩
  have hn : n ≤ 1048576 := by omega
  clear hmm
  have hL : L.length ≤ 9223372036854775807 := by omega
  have hL2 : L.length ≤ 1048576 := by omega
  have k1 : Bw w w1 := Bw.trans (Bw.alloc (Bw.refl _) _) hb1
  have hsz1 : w.heap.size < w1.heap.size := World.block_lt_of_cell? w1 _ d0
  refine (c_toLink _ _ _ ss f u _ hn (h.keep k1)).mono ?_
  rintro e w2 ⟨⟨A2, c2, rfl, row2⟩, hb2⟩
  have e0 := hb2.cellv d0
  have e1 := hb2.cellv d1
  have e2 := hb2.cellv d2
  clear d0 d1 d2
  go_wp2_with fail
  refine (HS.out _ _ _ hm (row2.rd (fun _ => rfl))).mono ?_
  rintro e w3 ⟨⟨Aw, cw, rfl, roww⟩, hb3⟩
  have rdw := roww.rd (fun _ => rfl)
  have f0 := hb3.cellv e0
  have f1 := hb3.cellv e1
  have f2 := hb3.cellv e2
  clear e0 e1 e2
  have k3 := (k1.trans hb2).trans hb3
  go_wp2_with fail
  refine (c_toLink _ _ _ ss f u _ hn (h.keep k3)).mono ?_
  rintro e w4 ⟨⟨A4, c4, rfl, row4⟩, hb4⟩
  have g0 := hb4.cellv f0
  have g1 := hb4.cellv f1
  have g2 := hb4.cellv f2
  clear f0 f1 f2
  have rd4 := row4.rd (fun _ => rfl)
  have lt4 := row4.lt
  have k4 := k3.trans hb4
  go_wp2_with fail
  refine (HI.out _ _ _ hm (rd4.keep (Bw.alloc (Bw.refl _) _))).mono ?_
  rintro e w5 ⟨⟨Ag, cg, rfl, rowg⟩, hb5⟩
  have ltg := rowg.lt
  have x0 := hb5.cellv (p := ⟨w4.heap.size, 0, none⟩) (v := .slice A4 n c4) (by go_simp)
  have x1 := hb5.cellv (p := ⟨w4.heap.size, 1, none⟩) (v := .string f) (by go_simp)
  have x2 := hb5.cellv (p := ⟨w4.heap.size, 2, none⟩) (v := .int .i64 u) (by go_simp)
  have k5 : Bw w4 w5 := (Bw.alloc (Bw.refl w4) _).trans hb5
  have y0 := k5.cellv g0
  have y1 := k5.cellv g1
  have y2 := k5.cellv g2
  clear g0 g1 g2
  go_wp2_with fail
  refine (c_eqIntS _ _ _ _ _ _ _ hL (rowg.rd (fun _ => rfl)) (rdw.keep (hb4.trans k5))).mono ?_
  rintro e w5a ⟨rfl, hb5a⟩
  have k5a := k5.trans hb5a
  replace x0 := hb5a.cellv x0
  replace x1 := hb5a.cellv x1
  replace x2 := hb5a.cellv x2
  replace y0 := hb5a.cellv y0
  replace y1 := hb5a.cellv y1
  replace y2 := hb5a.cellv y2
  go_wp2_with fail
  go_region_held3 (fun W => W.cell? ⟨w.heap.size, 0, none⟩ = some (.slice A n c) ∧ W.cell? ⟨w.heap.size, 1, none⟩ = some (.string f) ∧ W.cell? ⟨w.heap.size, 2, none⟩ = some (.int .i64 u) ∧ W.cell? ⟨w4.heap.size, 0, none⟩ = some (.slice A4 n c4) ∧ W.cell? ⟨w4.heap.size, 1, none⟩ = some (.string f) ∧ W.cell? ⟨w4.heap.size, 2, none⟩ = some (.int .i64 u) ∧ Bw w5a W) (first | exact ⟨y0, y1, y2, x0, x1, x2, Bw.drew (Bw.refl _)⟩ | exact ⟨hb6.cellv s0, hb6.cellv s1, hb6.cellv s2, hb6.cellv s3, hb6.cellv s4, hb6.cellv s5, hb6b⟩ | exact ⟨hb7.cellv r0, hb7.cellv r1, hb7.cellv r2, hb7.cellv r3, hb7.cellv r4, hb7.cellv r5, hb7b⟩ | (simp_all; done)) (first | ((have hS := ‹World.cell? _ _ = _ ∧ World.cell? _ _ = _ ∧ World.cell? _ _ = _ ∧ World.cell? _ _ = _ ∧ World.cell? _ _ = _ ∧ World.cell? _ _ = _ ∧ Bw w5a _›); (obtain ⟨s0, s1, s2, s3, s4, s5, s6⟩ := hS); (go_at_call 11); refine (c_toLink _ _ _ ss f u _ hn (h.keep ((k4.trans k5a).trans s6))).mono ?_; rintro e w6 ⟨⟨A6, c6, rfl, row6⟩, hb6⟩; have hb6b := Bw.trans s6 hb6) | ((have hS := ‹World.cell? _ _ = _ ∧ World.cell? _ _ = _ ∧ World.cell? _ _ = _ ∧ World.cell? _ _ = _ ∧ World.cell? _ _ = _ ∧ World.cell? _ _ = _ ∧ Bw w5a _›); (obtain ⟨r0, r1, r2, r3, r4, r5, r6⟩ := hS); (go_at_call 13); refine (c_eqLink _ _ _ _ _ ss f u _ hm (rd4.keep (k5a.trans r6)) (row6.rd (fun _ => rfl))).mono ?_; rintro e w7 ⟨rfl, hb7⟩; have hb7b := Bw.trans r6 hb7))
  have k7 : Bw w4 w7 := k5a.trans hb7b
  have m0 := hb7b.cellv y0
  have m1 := hb7b.cellv y1
  have m2 := hb7b.cellv y2
  have v0 := hb7b.cellv x0
  have v1 := hb7b.cellv x1
  have v2 := hb7b.cellv x2
  clear x0 x1 x2 y0 y1 y2
  go_wp2_with fail
  refine (c_markLink f u _ _ _ ss _ _ hn (row4.keep k7)).mono ?_
  rintro e w8 ⟨rfl, hg8⟩
  have B48 : Bw w3 w8 := Bw.ofRow (hb4.trans k7) hg8 (fun x hx => (lt4 x hx).1)
  have rowg8 := (rowg.keep (hb5a.trans hb7b)).grown hg8 (fun x hx he => by
    cases A4 with
    | none => simp [Value.ownBlock] at he
    | some y =>
      have h1 := (lt4 y rfl).2
      have h2 := (ltg x hx).1
      simp only [Value.ownBlock, Option.some.injEq] at he
      simp only [World.size_alloc] at h2
      omega)
  have hs3 := k3.size
  have hno : some w.heap.size ≠ Value.ownBlock (.slice A4 n c4) := fun he => by
    cases A4 with
    | none => simp [Value.ownBlock] at he
    | some y =>
      have h1 := (lt4 y rfl).1
      have := (hb2.trans hb3).size
      simp only [Value.ownBlock, Option.some.injEq] at he
      omega
  have n0 := hg8.cell m0 hno
  have n1 := hg8.cell m1 hno
  have n2 := hg8.cell m2 hno
  clear m0 m1 m2 v0 v1 v2
  go_wp2_with fail
  refine (c_eqIntS _ _ _ _ _ _ _ hL (rowg8.rd (fun _ => rfl)) (rdw.keep B48)).mono ?_
  rintro e w9 ⟨rfl, hb9⟩
  replace n0 := hb9.cellv n0
  replace n1 := hb9.cellv n1
  replace n2 := hb9.cellv n2
  go_wp2_with fail
  refine (c_markIntS _ _ _ _ 1 _ _ hL2 (by omega) (by omega) (rowg8.keep hb9)).mono ?_
  rintro e w10 ⟨rfl, rowg10, hg10⟩
  have hng : some w.heap.size ≠ Value.ownBlock (.slice Ag L.length cg) := fun he => by
    cases Ag with
    | none => simp [Value.ownBlock] at he
    | some y =>
      have h1 := (ltg y rfl).1
      have := (hb2.trans (hb3.trans hb4)).size
      simp only [World.size_alloc] at h1
      simp only [Value.ownBlock, Option.some.injEq] at he
      omega
  have o0 := hg10.cell n0 hng
  have o1 := hg10.cell n1 hng
  have o2 := hg10.cell n2 hng
  clear n0 n1 n2
  have B310 : Bw w3 w10 := Bw.ofRow (B48.trans hb9) hg10 (fun x hx => by have h1 := (ltg x hx).1; have h2 := hb4.size; simp only [World.size_alloc] at h1; omega)
  have rdg10 := rowg10.rd (fun _ => rfl)
  go_wp2_with fail
  refine (c_heldIntS _ _ _ 1 _ hL2 (by omega) (by omega) rdg10).mono ?_
  rintro e _ ⟨rfl, rfl⟩
  go_wp2_with fail
  refine (c_toLink _ _ _ ss f u _ hn (h.keep (k3.trans B310))).mono ?_
  rintro e w11 ⟨⟨A11, c11, rfl, row11⟩, hb11⟩
  go_wp2_with fail
  refine (HI.out _ _ _ hm (row11.rd (fun _ => rfl))).mono ?_
  rintro e w12 ⟨⟨Ah, ch, rfl, rowh⟩, hb12⟩
  have B1012 := hb11.trans hb12
  go_wp2_with fail
  refine (c_eqIntS _ _ _ _ _ _ _ hL (rowh.rd (fun _ => rfl)) (rdw.keep (B310.trans B1012))).mono ?_
  rintro e w13 ⟨rfl, hb13⟩
  go_wp2_with fail
  refine (c_heldIntS _ _ _ 1 _ hL2 (by omega) (by omega) (rdg10.keep (B1012.trans hb13))).mono ?_
  rintro e _ ⟨rfl, rfl⟩
  go_wp2_with fail
  go_ret
  exact ⟨rfl, ((k3.trans B310).trans B1012).trans hb13⟩
end Go.Proofs.YtilgllbojdkhhaaDoor
