
/- The law FnExactAwaitedSerials: the walk. -/
import Derived.Test.YtcemcgcbhmianaaDoorU7
import Derived.Deep.RegionHeld3
namespace Go.Proofs.YtcemcgcbhmianaaDoor
open Go.RowKit
theorem keep10 {w1 W : World} {p0 p1 p2 p3 p4 p5 p6 p7 p8 p9 : Addr} {v0 v1 v2 v3 v4 v5 v6 v7 v8 v9 : Value} (d0 : w1.cell? p0 = some v0) (d1 : w1.cell? p1 = some v1) (d2 : w1.cell? p2 = some v2) (d3 : w1.cell? p3 = some v3) (d4 : w1.cell? p4 = some v4) (d5 : w1.cell? p5 = some v5) (d6 : w1.cell? p6 = some v6) (d7 : w1.cell? p7 = some v7) (d8 : w1.cell? p8 = some v8) (d9 : w1.cell? p9 = some v9) (hh : Bw w1 W) :
    W.cell? p0 = some v0 ∧ W.cell? p1 = some v1 ∧ W.cell? p2 = some v2 ∧ W.cell? p3 = some v3 ∧ W.cell? p4 = some v4 ∧ W.cell? p5 = some v5 ∧ W.cell? p6 = some v6 ∧ W.cell? p7 = some v7 ∧ W.cell? p8 = some v8 ∧ W.cell? p9 = some v9 ∧ Bw w1 W := ⟨hh.cellv d0, hh.cellv d1, hh.cellv d2, hh.cellv d3, hh.cellv d4, hh.cellv d5, hh.cellv d6, hh.cellv d7, hh.cellv d8, hh.cellv d9, hh⟩
/-- The receiver in a box. -/
structure RBox (b : Nat) (st : Bool) (ck t : Int) (A : Option Addr) (n c : Nat) (B : Option Addr) (m d : Nat) (W : World) : Prop where
  c0 : W.cell? ⟨b, 0, none⟩ = some (.bool st)
  c1 : W.cell? ⟨b, 1, none⟩ = some (.int .i64 ck)
  c2 : W.cell? ⟨b, 2, none⟩ = some (.int .i64 t)
  c3 : W.cell? ⟨b, 3, none⟩ = some (.slice A n c)
  c4 : W.cell? ⟨b, 4, none⟩ = some (.slice B m d)
section
variable {b : Nat} {st : Bool} {ck t : Int} {A : Option Addr} {n c : Nat} {B : Option Addr} {m d : Nat} {W W' : World}
theorem RBox.keep (h : RBox b st ck t A n c B m d W) (hb : Bw W W') : RBox b st ck t A n c B m d W' := ⟨hb.cellv h.c0, hb.cellv h.c1, hb.cellv h.c2, hb.cellv h.c3, hb.cellv h.c4⟩
theorem RBox.grown (h : RBox b st ck t A n c B m d W) {row : Option Nat} (hg : W.grownBy W' row) (hr : some b ≠ row) : RBox b st ck t A n c B m d W' := ⟨hg.cell h.c0 hr, hg.cell h.c1 hr, hg.cell h.c2 hr, hg.cell h.c3 hr, hg.cell h.c4 hr⟩
theorem RBox.lt (h : RBox b st ck t A n c B m d W) : b < W.heap.size := World.block_lt_of_cell? W ⟨b, 0, none⟩ h.c0
end
set_option maxRecDepth 100000 in
set_option maxHeartbeats 2000000 in
theorem w_AwaitedSerials (st : Bool) (ck t : Int) (A : Option Addr) (n c : Nat) (ts : List Slot) (hf : fitL ts) (B : Option Addr) (m d : Nat) (rs : List Request) (w : World) (hn0 : n ≤ 9223372036854775807) (hm0 : m ≤ 9223372036854775807) (h : Rd w A n 2 (ts.map Slot.cells)) (hh : Rd w B m 4 (rs.map Request.cells)) :
    Calls Tryd.prog 12 #[.agg #[.bool st, .int .i64 ck, .int .i64 t, .slice A n c, .slice B m d]] w fun e w' => e = .returned (.bool true) ∧ Bw w w' := by
  have hlen : (awL st ck t ts rs).length ≤ m := by have := hh.requestlen; have := awL_len st ck t ts rs; omega
  have HS := Lib.hid (fun A c B d W => c_sAwaited st ck t A n c ts hf B m d rs W)
  have HI := Lib.hid (fun A c B d W => c_iAwaited st ck t A n c ts hf B m d rs W)
  generalize awL st ck t ts rs = L at *
  generalize rcB st ck t ts rs = rb at *
  have ha := (Bw.refl w).alloc (.cells #[.bool st, .int .i64 ck, .int .i64 t, .slice A n c, .slice B m d] 50)
  have hB0 : RBox w.heap.size st ck t A n c B m d (w.alloc (.cells #[.bool st, .int .i64 ck, .int .i64 t, .slice A n c, .slice B m d] 50)) := by constructor <;> go_simp
  go_enter Tryd.func12, Tryd.ntmps12
  go_wp2_with fail
  refine (c_szReceiver st ck t _ _ _ ts hf _ _ _ hn0 hm0 _ (h.keep ha)).mono ?_
  rintro e w1 ⟨⟨szx, rfl, hmm⟩, hb1⟩
  have hB1 := hB0.keep hb1
  clear hB0
  have ⟨d0, d1, d2, d3, d4⟩ := hB1
  go_wp2_with fail
  · go_ret
    exact ⟨rfl, ha.trans hb1⟩
  have hn : n ≤ 1048576 := by omega
  have hm : m ≤ 1048576 := by omega
  clear hmm
  have hL : L.length ≤ 9223372036854775807 := by omega
  have hL2 : L.length ≤ 1048576 := by omega
  have k1 := ha.trans hb1
  clear d0 d1 d2 d3 d4
  refine (c_toReceiver st ck t _ _ _ ts _ _ _ rs _ hn hm (h.keep k1) (hh.keep k1)).mono ?_
  rintro e w2 ⟨⟨A2, c2, B2, dd2, rfl, row2, rowh2⟩, hb2⟩
  have hB2 := hB1.keep hb2
  go_wp2_with fail
  refine (HS.out _ _ _ _ _ hn0 hm0 (row2.rd (fun _ => rfl)) (rowh2.rd (fun _ => rfl))).mono ?_
  rintro e w3 ⟨⟨Aw, cw, rfl, roww⟩, hb3⟩
  have rdw := roww.rd (fun _ => rfl)
  have hB3 := hB2.keep hb3
  have k3 := (k1.trans hb2).trans hb3
  have ⟨d0, d1, d2, d3, d4⟩ := hB3
  go_wp2_with fail
  clear d0 d1 d2 d3 d4
  refine (c_toReceiverA st ck t _ _ _ ts _ _ _ rs _ hn hm (h.keep k3) (hh.keep k3)).mono ?_
  rintro e w4 ⟨⟨A4, c4, B4, dd4, rfl, row4, rowh4, hap4⟩, hb4⟩
  have lt4 := row4.lt
  have lth4 := rowh4.lt
  have rd4 := row4.rd (fun _ => rfl)
  have rh4 := rowh4.rd (fun _ => rfl)
  have k4 := k3.trans hb4
  have a4 := (Bw.refl w4).alloc (.cells #[.bool st, .int .i64 ck, .int .i64 t, .slice A4 n c4, .slice B4 m dd4] 55)
  have hX4 : RBox w4.heap.size st ck t A4 n c4 B4 m dd4 (w4.alloc (.cells #[.bool st, .int .i64 ck, .int .i64 t, .slice A4 n c4, .slice B4 m dd4] 55)) := by constructor <;> go_simp
  have hB4 := hB3.keep hb4
  go_wp2_with fail
  refine (HI.out _ _ _ _ _ hn0 hm0 (rd4.keep a4) (rh4.keep a4)).mono ?_
  rintro e w5 ⟨⟨Ag, cg, rfl, rowg⟩, hb5⟩
  have ltg := rowg.lt
  have k5 := a4.trans hb5
  have hX5 := hX4.keep hb5
  have hB5 := hB4.keep k5
  clear hX4 hB4 hB3 hB2 hB1
  go_wp2_with fail
  refine (c_eqIntS _ _ _ _ _ _ _ hL (rowg.rd (fun _ => rfl)) (rdw.keep (hb4.trans k5))).mono ?_
  rintro e w5a ⟨rfl, hb5a⟩
  have k5a := k5.trans hb5a
  have hX := hX5.keep hb5a
  have hB := hB5.keep hb5a
  clear hX5 hB5
  have ⟨y0, y1, y2, y3, y4⟩ := hB
  have ⟨x0, x1, x2, x3, x4⟩ := hX
  go_wp2_with fail
  go_region_held3 (fun W => W.cell? ⟨w.heap.size, 0, none⟩ = some (.bool st) ∧ W.cell? ⟨w.heap.size, 1, none⟩ = some (.int .i64 ck) ∧ W.cell? ⟨w.heap.size, 2, none⟩ = some (.int .i64 t) ∧ W.cell? ⟨w.heap.size, 3, none⟩ = some (.slice A n c) ∧ W.cell? ⟨w.heap.size, 4, none⟩ = some (.slice B m d) ∧ W.cell? ⟨w4.heap.size, 0, none⟩ = some (.bool st) ∧ W.cell? ⟨w4.heap.size, 1, none⟩ = some (.int .i64 ck) ∧ W.cell? ⟨w4.heap.size, 2, none⟩ = some (.int .i64 t) ∧ W.cell? ⟨w4.heap.size, 3, none⟩ = some (.slice A4 n c4) ∧ W.cell? ⟨w4.heap.size, 4, none⟩ = some (.slice B4 m dd4) ∧ Bw w5a W) (first | (refine keep10 y0 y1 y2 y3 y4 x0 x1 x2 x3 x4 ?_; (repeat (first | with_reducible assumption | exact Bw.refl _ | (with_reducible refine Bw.setCell ?_ (by dsimp only; omega) _) | (with_reducible refine Bw.alloc ?_ _) | (with_reducible refine Bw.drew ?_) | (with_reducible refine Bw.drewN ?_ _))); done)) (first | ((have hS := ‹World.cell? _ _ = _ ∧ World.cell? _ _ = _ ∧ World.cell? _ _ = _ ∧ World.cell? _ _ = _ ∧ World.cell? _ _ = _ ∧ World.cell? _ _ = _ ∧ World.cell? _ _ = _ ∧ World.cell? _ _ = _ ∧ World.cell? _ _ = _ ∧ World.cell? _ _ = _ ∧ Bw w5a _›); (have hbS := hS.2.2.2.2.2.2.2.2.2.2); clear hS; (go_at_call 35); refine (c_toReceiver st ck t _ _ _ ts _ _ _ rs _ hn hm (h.keep ((k4.trans k5a).trans hbS)) (hh.keep ((k4.trans k5a).trans hbS))).mono ?_; rintro e w6 ⟨⟨A6, c6, B6, dd6, rfl, row6, rowh6⟩, hb60⟩; have hb6 := hbS.trans hb60) | ((have hS := ‹World.cell? _ _ = _ ∧ World.cell? _ _ = _ ∧ World.cell? _ _ = _ ∧ World.cell? _ _ = _ ∧ World.cell? _ _ = _ ∧ World.cell? _ _ = _ ∧ World.cell? _ _ = _ ∧ World.cell? _ _ = _ ∧ World.cell? _ _ = _ ∧ World.cell? _ _ = _ ∧ Bw w5a _›); (have hbS := hS.2.2.2.2.2.2.2.2.2.2); clear hS; (go_at_call 37); refine (c_eqReceiver st ck t _ _ _ _ _ ts _ _ _ _ _ rs _ hn0 hm0 (rd4.keep (k5a.trans hbS)) (row6.rd (fun _ => rfl)) (rh4.keep (k5a.trans hbS)) (rowh6.rd (fun _ => rfl))).mono ?_; rintro e w7 ⟨rfl, hb70⟩; have hb7 := hbS.trans hb70) | fail)
  have k7 := k5a.trans hb7
  have hX7 := hX.keep hb7
  have hB7 := hB.keep hb7
  clear y0 y1 y2 y3 y4 x0 x1 x2 x3 x4 hX hB
  have ⟨v0, v1, v2, v3, v4⟩ := hX7
  go_wp2_with fail
  clear v0 v1 v2 v3 v4
  refine (c_markReceiver st ck t _ _ _ ts _ _ _ rs _ _ hn hm (row4.keep k7) (rowh4.keep k7) hap4).mono ?_
  rintro e w8 ⟨rfl, wm, hgm, hg8⟩
  have hs34 := hb4.size
  have hsw3 := hB7.lt
  have hs3w := k3.size
  have B4m : Bw w3 wm := Bw.ofRow (hb4.trans k7) hgm (fun x hx => (lt4 x hx).1)
  have B48 : Bw w3 w8 := Bw.ofRow B4m hg8 (fun x hx => (lth4 x hx).1)
  have hlw : w.heap.size < w3.heap.size := by have := k1.size; have := (hb2.trans hb3).size; have := hb1.size; simp at this; omega
  have ltA : ∀ x, A4 = some x → x.block < w4.heap.size := fun x hx => (lt4 x hx).2
  have ltB : ∀ x, B4 = some x → x.block < w4.heap.size := fun x hx => (lth4 x hx).2
  have apA : Apart A4 Ag := fun x y hx hy he => by have h1 := ltA x hx; have h2 := (ltg y hy).1; simp only [World.size_alloc] at h2; omega
  have apB : Apart B4 Ag := fun x y hx hy he => by have h1 := ltB x hx; have h2 := (ltg y hy).1; simp only [World.size_alloc] at h2; omega
  have rowg8 := ((rowg.keep (hb5a.trans hb7)).apart hgm apA).apart hg8 apB
  go_wp2_with fail
  refine (c_eqIntS _ _ _ _ _ _ _ hL (rowg8.rd (fun _ => rfl)) (rdw.keep B48)).mono ?_
  rintro e w9 ⟨rfl, hb9⟩
  go_wp2_with fail
  refine (c_markIntS _ _ _ _ 1 _ _ hL2 (by omega) (by omega) (rowg8.keep hb9)).mono ?_
  rintro e w10 ⟨rfl, rowg10, hg10⟩
  have B310 : Bw w3 w10 := Bw.ofRow (B48.trans hb9) hg10 (fun x hx => by have h1 := (ltg x hx).1; simp only [World.size_alloc] at h1; omega)
  have hB3' : RBox w.heap.size st ck t A n c B m d w10 := by
    refine RBox.grown (RBox.keep (RBox.grown (RBox.grown hB7 hgm ?_) hg8 ?_) hb9) hg10 ?_
    · exact (row4.keep k7).notOwnA' (fun x hx => by have := (lt4 x hx).1; omega)
    · exact (rowh4.keep k7).notOwnA' (fun x hx => by have := (lth4 x hx).1; omega)
    · exact (rowg8.keep hb9).notOwnA' (fun x hx => by have h1 := (ltg x hx).1; simp only [World.size_alloc] at h1; omega)
  have rdg10 := rowg10.rd (fun _ => rfl)
  have ⟨o0, o1, o2, o3, o4⟩ := hB3'
  go_wp2_with fail
  clear o0 o1 o2 o3 o4
  refine (c_heldIntS _ _ _ 1 _ hL2 (by omega) (by omega) rdg10).mono ?_
  rintro e _ ⟨rfl, rfl⟩
  have ⟨o0, o1, o2, o3, o4⟩ := hB3'
  have k10 := k3.trans B310
  go_wp2_with fail
  clear o0 o1 o2 o3 o4
  refine (c_toReceiver st ck t _ _ _ ts _ _ _ rs _ hn hm (h.keep k10) (hh.keep k10)).mono ?_
  rintro e w11 ⟨⟨A11, c11, B11, dd11, rfl, row11, rowh11⟩, hb11⟩
  go_wp2_with fail
  refine (HI.out _ _ _ _ _ hn0 hm0 (row11.rd (fun _ => rfl)) (rowh11.rd (fun _ => rfl))).mono ?_
  rintro e w12 ⟨⟨Ah, ch, rfl, rowh⟩, hb12⟩
  have B1012 := hb11.trans hb12
  go_wp2_with fail
  refine (c_eqIntS _ _ _ _ _ _ _ hL (rowh.rd (fun _ => rfl)) (rdw.keep (B310.trans B1012))).mono ?_
  rintro e w13 ⟨rfl, hb13⟩
  go_wp2_with fail
  refine (c_heldIntS _ _ _ 1 _ hL2 (by omega) (by omega) (rdg10.keep (B1012.trans hb13))).mono ?_
  rintro e _ ⟨rfl, rfl⟩
  go_wp2_with fail
  go_ret
  exact ⟨rfl, ((k3.trans B310).trans B1012).trans hb13⟩
end Go.Proofs.YtcemcgcbhmianaaDoor
