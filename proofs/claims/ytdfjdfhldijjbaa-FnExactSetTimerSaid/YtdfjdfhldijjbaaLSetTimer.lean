
/- The law FnExactSetTimer: the walk. -/
import Derived.Test.YtdfjdfhldijjbaaTS
namespace Go.Proofs.Ytdfjdfhldijjbaa
open Go.RowKit
set_option maxRecDepth 100000 in
set_option maxHeartbeats 1000000 in
theorem w_SetTimer (A : Option Addr) (n c : Nat) (ts : List Timer) (t : Timer) (w : World) (hm : n ≤ 9223372036854775807) (h : Rd w A n 3 (ts.map Timer.cells)) :
    Calls Try.prog 9 #[.slice A n c, .agg #[.int .i64 t.id, .int .i64 t.due, .int .i64 t.per]] w fun e w' => e = .returned (.bool true) ∧ Bw w w' := by
  have hlen : (setR ts t).length ≤ 10 := setR_len ts t
  generalize hR : setR ts t = L at hlen
  generalize hB : setB ts t = rb
  have HR := Lib.hid hR
  have HB := Lib.hid hB
  clear hR hB
  have hL : L.length ≤ 9223372036854775807 := by omega
  have hL2 : L.length ≤ 1048576 := by omega
  go_enter Try.func9, Try.ntmps9
  go_wp2_with (go_at_call 18; refine (c_szTimerS _ _ _ hm _).mono ?_; rintro e w1 ⟨⟨m, rfl, hmm⟩, rfl⟩)
  · go_ret
    exact ⟨rfl, (Bw.refl _).alloc _⟩
  have hn : n ≤ 1048576 := by omega
  clear hmm
  have kW := (Bw.refl w).alloc (.cells #[.int .i64 t.id, .int .i64 t.due, .int .i64 t.per] 23)
  have d0 : (w.alloc (.cells #[.int .i64 t.id, .int .i64 t.due, .int .i64 t.per] 23)).cell? ⟨w.heap.size, 0, none⟩ = some (.int .i64 t.id) := by go_simp
  have d1 : (w.alloc (.cells #[.int .i64 t.id, .int .i64 t.due, .int .i64 t.per] 23)).cell? ⟨w.heap.size, 1, none⟩ = some (.int .i64 t.due) := by go_simp
  have d2 : (w.alloc (.cells #[.int .i64 t.id, .int .i64 t.due, .int .i64 t.per] 23)).cell? ⟨w.heap.size, 2, none⟩ = some (.int .i64 t.per) := by go_simp
  generalize w.alloc (.cells #[.int .i64 t.id, .int .i64 t.due, .int .i64 t.per] 23) = w1 at kW d0 d1 d2 ⊢
  have hbQ := Bw.refl w1
  go_region_held3 (fun W => W.cell? ⟨w.heap.size, 0, none⟩ = some (.int .i64 t.id) ∧ W.cell? ⟨w.heap.size, 1, none⟩ = some (.int .i64 t.due) ∧ W.cell? ⟨w.heap.size, 2, none⟩ = some (.int .i64 t.per) ∧ Bw w1 W) (first | exact keep3 (Bw.drew hbQ) d0 d1 d2 | exact keep3 hbT d0 d1 d2 | exact keep3 hbU d0 d1 d2 | exact keep3 hbV d0 d1 d2) (first | ((have hS := ‹World.cell? _ _ = _ ∧ World.cell? _ _ = _ ∧ World.cell? _ _ = _ ∧ Bw w1 _›); (have hbS := hS.2.2.2); (go_at_call 20); refine (c_toTimerS _ _ _ ts _ hn (h.keep (kW.trans hbS))).mono ?_; rintro e wT ⟨⟨AT, cT, rfl, rowT⟩, hbT0⟩; have hbT := hbS.trans hbT0) | ((have hS := ‹World.cell? _ _ = _ ∧ World.cell? _ _ = _ ∧ World.cell? _ _ = _ ∧ Bw w1 _›); (have hbS := hS.2.2.2); (go_at_call 15); refine (c_toTimer t.id t.due t.per _).mono ?_; rintro e wU ⟨rfl, hbU0⟩; have hbU := hbS.trans hbU0; have rowU := rowT.keep hbU0) | ((have hS := ‹World.cell? _ _ = _ ∧ World.cell? _ _ = _ ∧ World.cell? _ _ = _ ∧ Bw w1 _›); (have hbS := hS.2.2.2); (go_at_call 33); refine (c_sSetTimer _ _ _ ts t _ hm (rowU.rd (fun _ => rfl))).mono ?_; rw [HR.out, HB.out]; rintro e wV ⟨⟨Aw, cw, rfl, rowV⟩, hbV0⟩; have hbV := hbS.trans hbV0) | fail)
  have roww := rowV
  have B2 := kW.trans hbV
  have f0 := hbV.cellv d0
  have f1 := hbV.cellv d1
  have f2 := hbV.cellv d2
  clear hbT rowT hbU rowU rowV hbQ hbT0 hbU0 hbV0
  have rdw := roww.rd (fun _ => rfl)
  clear d0 d1 d2
  go_wp2_with fail
  refine (c_toTimerS _ _ _ ts _ hn (h.keep B2)).mono ?_
  rintro e w3 ⟨⟨Ax, cx, rfl, rowx0⟩, hb3⟩
  have ltx := rowx0.lt
  have d0 := hb3.cellv f0
  have d1 := hb3.cellv f1
  have d2 := hb3.cellv f2
  go_wp2_with (go_at_call 15; refine (c_toTimer t.id t.due t.per _).mono ?_; rintro e w3b ⟨rfl, hb3b⟩)
  have rowx := rowx0.keep hb3b
  have rdx := rowx.rd (fun _ => rfl)
  refine (c_iSetTimer _ _ _ ts t _ hm rdx).mono ?_
  rw [HR.out, HB.out]
  rintro e w4 ⟨⟨Ag, cg, rfl, rowg⟩, hb4⟩
  have rdg := rowg.rd (fun _ => rfl)
  have ltg := rowg.lt
  have B34 := hb3b.trans hb4
  have B24 := hb3.trans B34
  go_wp2_with fail
  refine (c_eqTimerS _ _ _ _ _ _ _ hL rdg (rdw.keep B24)).mono ?_
  rintro e w5 ⟨rfl, hb5⟩
  go_wp2_with fail
  refine (c_toTimerS _ _ _ ts _ hn (h.keep ((B2.trans B24).trans hb5))).mono ?_
  rintro e w6 ⟨⟨A6, c6, rfl, row6⟩, hb6⟩
  have rd6 := row6.rd (fun _ => rfl)
  go_wp2_with fail
  refine (c_eqTimerS _ _ _ _ _ ts _ hm (((rdx.keep hb4).keep hb5).keep hb6) rd6).mono ?_
  rintro e w7 ⟨rfl, hb7⟩
  have B47 := (hb5.trans hb6).trans hb7
  go_wp2_with fail
  refine (c_markTimerS _ _ _ ts 1 _ _ hn (by omega) (by omega) ((rowx.keep hb4).keep B47)).mono ?_
  rintro e w8 ⟨rfl, rowx8, hg8⟩
  have B28 : Bw wV w8 := Bw.ofRow (B24.trans B47) hg8 (fun x hx => (ltx x hx).1)
  have rowg8 := (rowg.keep B47).grown hg8 (fun x hx he => by
    cases Ax with
    | none => simp [Value.ownBlock] at he
    | some y =>
      have h1 := (ltx y rfl).2
      have h2 := (ltg x hx).1
      have h3 := hb3b.size
      simp only [Value.ownBlock, Option.some.injEq] at he
      omega)
  have rdg8 := rowg8.rd (fun _ => rfl)
  go_wp2_with fail
  refine (c_eqTimerS _ _ _ _ _ _ _ hL rdg8 (rdw.keep B28)).mono ?_
  rintro e w9 ⟨rfl, hb9⟩
  go_wp2_with fail
  refine (c_markTimerS _ _ _ _ 1 _ _ hL2 (by omega) (by omega) (rowg8.keep hb9)).mono ?_
  rintro e w10 ⟨rfl, rowg10, hg10⟩
  have B210 : Bw wV w10 := Bw.ofRow (B28.trans hb9) hg10 (fun x hx => by have h1 := (ltg x hx).1; have h2 := hb3.size; have h3 := hb3b.size; omega)
  have rdg10 := rowg10.rd (fun _ => rfl)
  go_wp2_with fail
  refine (c_heldTimerS _ _ _ 1 _ hL2 (by omega) (by omega) rdg10).mono ?_
  rintro e _ ⟨rfl, rfl⟩
  clear d0 d1 d2
  have d0 := B210.cellv f0
  have d1 := B210.cellv f1
  have d2 := B210.cellv f2
  have kW0 := kW
  clear kW
  have kW := B2.trans B210
  go_wp2_with fail
  have hbQ := Bw.refl w10
  go_region_held3 (fun W => W.cell? ⟨w.heap.size, 0, none⟩ = some (.int .i64 t.id) ∧ W.cell? ⟨w.heap.size, 1, none⟩ = some (.int .i64 t.due) ∧ W.cell? ⟨w.heap.size, 2, none⟩ = some (.int .i64 t.per) ∧ Bw w10 W) (first | exact keep3 (Bw.drew hbQ) d0 d1 d2 | exact keep3 hbT d0 d1 d2 | exact keep3 hbU d0 d1 d2 | exact keep3 hbV d0 d1 d2) (first | ((have hS := ‹World.cell? _ _ = _ ∧ World.cell? _ _ = _ ∧ World.cell? _ _ = _ ∧ Bw w10 _›); (have hbS := hS.2.2.2); (go_at_call 20); refine (c_toTimerS _ _ _ ts _ hn (h.keep (kW.trans hbS))).mono ?_; rintro e wT ⟨⟨AT, cT, rfl, rowT⟩, hbT0⟩; have hbT := hbS.trans hbT0) | ((have hS := ‹World.cell? _ _ = _ ∧ World.cell? _ _ = _ ∧ World.cell? _ _ = _ ∧ Bw w10 _›); (have hbS := hS.2.2.2); (go_at_call 15); refine (c_toTimer t.id t.due t.per _).mono ?_; rintro e wU ⟨rfl, hbU0⟩; have hbU := hbS.trans hbU0; have rowU := rowT.keep hbU0) | ((have hS := ‹World.cell? _ _ = _ ∧ World.cell? _ _ = _ ∧ World.cell? _ _ = _ ∧ Bw w10 _›); (have hbS := hS.2.2.2); (go_at_call 34); refine (c_iSetTimer _ _ _ ts t _ hm (rowU.rd (fun _ => rfl))).mono ?_; rw [HR.out, HB.out]; rintro e wV ⟨⟨Ah, ch, rfl, rowV⟩, hbV0⟩; have hbV := hbS.trans hbV0) | fail)
  have rdh := rowV.rd (fun _ => rfl)
  go_wp2_with fail
  refine (c_eqTimerS _ _ _ _ _ _ _ hL rdh (rdw.keep (B210.trans hbV))).mono ?_
  rintro e w13 ⟨rfl, hb13⟩
  go_wp2_with fail
  refine (c_heldTimerS _ _ _ 1 _ hL2 (by omega) (by omega) (rdg10.keep (hbV.trans hb13))).mono ?_
  rintro e _ ⟨rfl, rfl⟩
  go_wp2_with fail
  go_ret
  exact ⟨rfl, (kW.trans hbV).trans hb13⟩
end Go.Proofs.Ytdfjdfhldijjbaa
