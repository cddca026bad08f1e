
/- The law FnExactDrain: the walk. -/
import Derived.Test.YtilgllbojdkhhaaDoorN9
import Derived.Test.YtilgllbojdkhhaaDoorK21
import Derived.Deep.RegionHeld3
namespace Go.Proofs.YtilgllbojdkhhaaDoor
open Go.RowKit
theorem Rd.zero {w : World} {A : Option Addr} {sz : Nat} : Rd w A 0 sz [] := ⟨rfl, fun h => absurd h (by omega)⟩
theorem c_mark0A (A : Option Addr) (c : Nat) (k0 : Int) (w : World) : Calls Tryd.prog 23 #[.slice A 0 c, .int .i64 k0] w fun e w' => e = .returned (.int .i64 k0) ∧ w = w' := by
  go_enter Tryd.func23, Tryd.ntmps23
  go_wp2
  go_loop [1, 5] (fun kv i => kv = .int .i64 k0 ∧ i = .int .i64 0) (fun _ _ => 0)
  case atStart => exact ⟨rfl, rfl⟩
  case round =>
    obtain ⟨rfl, rfl⟩ := hrel
    go_wp2
    go_ret
    exact ⟨rfl, rfl⟩
theorem c_held0A (A : Option Addr) (c : Nat) (k0 : Int) (w : World) : Calls Tryd.prog 24 #[.slice A 0 c, .int .i64 k0] w fun e w' => e = .returned (.int .i64 k0) ∧ w = w' := by
  go_enter Tryd.func24, Tryd.ntmps24
  go_wp2
  go_loop [1, 5] (fun kv i => kv = .int .i64 k0 ∧ i = .int .i64 0) (fun _ _ => 0)
  case atStart => exact ⟨rfl, rfl⟩
  case round =>
    obtain ⟨rfl, rfl⟩ := hrel
    go_wp2
    go_ret
    exact ⟨rfl, rfl⟩
theorem c_markLinkA (A : Option Addr) (c : Nat) (f : ByteArray) (u : Int) (w : World) : Calls Tryd.prog 16 #[.agg #[.slice A 0 c, .string f, .int .i64 u], .int .i64 1] w fun e w' => e = .returned (.int .i64 1) ∧ Bw w w' := by
  go_enter Tryd.func16, Tryd.ntmps16
  go_wp2_with (go_at_call 23; refine (c_mark0A _ _ _ _).mono ?_; rintro e w1 ⟨rfl, rfl⟩)
  go_ret
  exact ⟨rfl, by (repeat (first | with_reducible assumption | exact Bw.refl _ | (with_reducible refine Bw.setCell ?_ (by simp) _) | (with_reducible refine Bw.alloc ?_ _) | (with_reducible refine Bw.drew ?_) | (with_reducible refine Bw.drewN ?_ _)))⟩
theorem c_heldLinkA (A : Option Addr) (c : Nat) (f : ByteArray) (u : Int) (w : World) : Calls Tryd.prog 17 #[.agg #[.slice A 0 c, .string f, .int .i64 u], .int .i64 1] w fun e w' => e = .returned (.int .i64 1) ∧ Bw w w' := by
  go_enter Tryd.func17, Tryd.ntmps17
  go_wp2_with (go_at_call 24; refine (c_held0A _ _ _ _).mono ?_; rintro e w1 ⟨rfl, rfl⟩)
  go_ret
  exact ⟨rfl, by (repeat (first | with_reducible assumption | exact Bw.refl _ | (with_reducible refine Bw.setCell ?_ (by simp) _) | (with_reducible refine Bw.alloc ?_ _) | (with_reducible refine Bw.drew ?_) | (with_reducible refine Bw.drewN ?_ _)))⟩
/-- A link in a box. -/
structure LBox (b : Nat) (A : Option Addr) (n c : Nat) (f : ByteArray) (u : Int) (W : World) : Prop where
  c0 : W.cell? ⟨b, 0, none⟩ = some (.slice A n c)
  c1 : W.cell? ⟨b, 1, none⟩ = some (.string f)
  c2 : W.cell? ⟨b, 2, none⟩ = some (.int .i64 u)
section
variable {b : Nat} {A : Option Addr} {n c : Nat} {f : ByteArray} {u : Int} {W W' : World}
theorem LBox.keep (h : LBox b A n c f u W) (hb : Bw W W') : LBox b A n c f u W' := ⟨hb.cellv h.c0, hb.cellv h.c1, hb.cellv h.c2⟩
theorem LBox.grown (h : LBox b A n c f u W) {row : Option Nat} (hg : W.grownBy W' row) (hr : some b ≠ row) : LBox b A n c f u W' := ⟨hg.cell h.c0 hr, hg.cell h.c1 hr, hg.cell h.c2 hr⟩
theorem LBox.lt (h : LBox b A n c f u W) : b < W.heap.size := World.block_lt_of_cell? W ⟨b, 0, none⟩ h.c0
end
theorem own_ne {b : Nat} {A : Option Addr} {m d : Nat} (hx : ∀ x, A = some x → b ≠ x.block) : some b ≠ Value.ownBlock (.slice A m d) := fun he => by
  cases A with
  | none => simp [Value.ownBlock] at he
  | some y => have := hx y rfl; simp only [Value.ownBlock, Option.some.injEq] at he; omega
theorem keepL {w1 W : World} {b b' : Nat} {A A' : Option Addr} {n c n' c' : Nat} {f f' : ByteArray} {u u' : Int} (h : LBox b A n c f u w1) (h' : LBox b' A' n' c' f' u' w1) (hh : Bw w1 W) :
    W.cell? ⟨b, 0, none⟩ = some (.slice A n c) ∧ W.cell? ⟨b, 1, none⟩ = some (.string f) ∧ W.cell? ⟨b, 2, none⟩ = some (.int .i64 u) ∧ W.cell? ⟨b', 0, none⟩ = some (.slice A' n' c') ∧ W.cell? ⟨b', 1, none⟩ = some (.string f') ∧ W.cell? ⟨b', 2, none⟩ = some (.int .i64 u') ∧ Bw w1 W :=
  ⟨hh.cellv h.c0, hh.cellv h.c1, hh.cellv h.c2, hh.cellv h'.c0, hh.cellv h'.c1, hh.cellv h'.c2, hh⟩
set_option maxRecDepth 100000 in
set_option maxHeartbeats 2000000 in
theorem w_Drain (A : Option Addr) (n c : Nat) (ss : List ByteArray) (hf : fitS ss) (f : ByteArray) (hfs : f.size ≤ maxLen) (u : Int) (w : World) (hm : n ≤ 9223372036854775807) (h : Rd w A n 1 (ss.map scell)) :
    Calls Tryd.prog 6 #[.agg #[.slice A n c, .string f, .int .i64 u]] w fun e w' => e = .returned (.bool true) ∧ Bw w w' := by
  have hlen : (drL ss f u).length ≤ n := by have := h.slen; have := drL_len ss f u; omega
  have HS := Lib.hid (fun A c W => c_sDrain A n c ss hf f hfs u W)
  have HI := Lib.hid (fun A c W => c_iDrain A n c ss hf f hfs u W)
  generalize drL ss f u = L at *
  generalize drF ss f u = F at *
  generalize drU ss f u = U at *
  generalize lkB ss f u = rb at *
  have ha := (Bw.refl w).alloc (.cells #[.slice A n c, .string f, .int .i64 u] 24)
  have hB0 : LBox w.heap.size A n c f u (w.alloc (.cells #[.slice A n c, .string f, .int .i64 u] 24)) := by constructor <;> go_simp
  go_enter Tryd.func6, Tryd.ntmps6
  go_wp2_with fail
  refine (c_szLink _ _ _ ss hf f hfs u hm _ (h.keep ha)).mono ?_
  rintro e w1 ⟨⟨szx, rfl, hmm⟩, hb1⟩
  have hB1 := hB0.keep hb1
  clear hB0
  have ⟨d0, d1, d2⟩ := hB1
  go_wp2_with fail
  · go_ret
    exact ⟨rfl, ha.trans hb1⟩
  have hn : n ≤ 1048576 := by omega
  clear hmm
  have hL : L.length ≤ 9223372036854775807 := by omega
  have hL2 : L.length ≤ 1048576 := by omega
  have k1 := ha.trans hb1
  clear d0 d1 d2
  refine (c_toLink _ _ _ ss f u _ hn (h.keep k1)).mono ?_
  rintro e w2 ⟨⟨A2, c2, rfl, row2⟩, hb2⟩
  have hB2 := hB1.keep hb2
  go_wp2_with fail
  refine (HS.out _ _ _ hm (row2.rd (fun _ => rfl))).mono ?_
  rintro e w3 ⟨⟨Aq, cq, Aw, cw, rfl, roww⟩, hb3⟩
  have ltw := roww.lt
  have rdw := roww.rd (fun _ => rfl)
  have hB3 := hB2.keep hb3
  have k3 := (k1.trans hb2).trans hb3
  have a3 := (Bw.refl w3).alloc (.cells #[.slice Aq 0 cq, .string F, .int .i64 U] 27)
  have hW3 : LBox w3.heap.size Aq 0 cq F U (w3.alloc (.cells #[.slice Aq 0 cq, .string F, .int .i64 U] 27)) := by constructor <;> go_simp
  have ltB3 := hB3.lt
  have ⟨d0, d1, d2⟩ := hB3
  go_wp2_with fail
  clear d0 d1 d2
  refine (c_toLink _ _ _ ss f u _ hn (h.keep (k3.trans a3))).mono ?_
  rintro e w4 ⟨⟨A4, c4, rfl, row4⟩, hb4⟩
  have lt4 := row4.lt
  have rd4 := row4.rd (fun _ => rfl)
  have k34 := a3.trans hb4
  have hB4 := hB3.keep k34
  have hW4 := hW3.keep hb4
  have a4 := (Bw.refl w4).alloc (.cells #[.slice A4 n c4, .string f, .int .i64 u] 27)
  have hX4 : LBox w4.heap.size A4 n c4 f u (w4.alloc (.cells #[.slice A4 n c4, .string f, .int .i64 u] 27)) := by constructor <;> go_simp
  go_wp2_with fail
  refine (HI.out _ _ _ hm (rd4.keep a4)).mono ?_
  rintro e w5 ⟨⟨Ar, cr, Ag, cg, rfl, rowg⟩, hb5⟩
  have ltg := rowg.lt
  have k45 := a4.trans hb5
  have hB5 := hB4.keep k45
  have hW5 := hW4.keep k45
  have hX5 := hX4.keep hb5
  have a5 := (Bw.refl w5).alloc (.cells #[.slice Ar 0 cr, .string F, .int .i64 U] 27)
  have hG5 : LBox w5.heap.size Ar 0 cr F U (w5.alloc (.cells #[.slice Ar 0 cr, .string F, .int .i64 U] 27)) := by constructor <;> go_simp
  have ltW5 := hW5.lt
  have ⟨e0, e1, e2⟩ := hW5
  go_wp2_with fail
  clear e0 e1 e2
  refine (c_eqLink _ _ _ _ _ [] F U _ (by omega) Rd.zero Rd.zero).mono ?_
  rintro e w6 ⟨rfl, hb6⟩
  have k56 := a5.trans hb6
  have hG6 := hG5.keep hb6
  have hB6 := hB5.keep k56
  have hW6 := hW5.keep k56
  have hX6 := hX5.keep k56
  clear hB1 hB2 hB3 hB4 hB5 hW3 hW4 hW5 hX4 hX5 hG5
  go_wp2_with fail
  refine (c_eqStringS _ _ _ _ _ L _ hL ((rowg.keep k56).rd (fun _ => rfl)) (rdw.keep ((k34.trans k45).trans k56))).mono ?_
  rintro e w7 ⟨rfl, hb7⟩
  have k57 := k56.trans hb7
  have hG7 := hG6.keep hb7
  have hB7 := hB6.keep hb7
  have hW7 := hW6.keep hb7
  have hX7 := hX6.keep hb7
  clear hG6 hB6 hW6 hX6
  have k37 := (k34.trans k45).trans k57
  have ⟨y0, y1, y2⟩ := hB7
  have ⟨x0, x1, x2⟩ := hX7
  go_wp2_with fail
  go_region_held3 (fun W => W.cell? ⟨w.heap.size, 0, none⟩ = some (.slice A n c) ∧ W.cell? ⟨w.heap.size, 1, none⟩ = some (.string f) ∧ W.cell? ⟨w.heap.size, 2, none⟩ = some (.int .i64 u) ∧ W.cell? ⟨w4.heap.size, 0, none⟩ = some (.slice A4 n c4) ∧ W.cell? ⟨w4.heap.size, 1, none⟩ = some (.string f) ∧ W.cell? ⟨w4.heap.size, 2, none⟩ = some (.int .i64 u) ∧ Bw w7 W) (first | (refine keepL hB7 hX7 ?_; (repeat (first | with_reducible assumption | exact Bw.refl _ | (with_reducible refine Bw.setCell ?_ (by dsimp only; omega) _) | (with_reducible refine Bw.alloc ?_ _) | (with_reducible refine Bw.drew ?_) | (with_reducible refine Bw.drewN ?_ _))); done)) (first | ((have hS := ‹World.cell? _ _ = _ ∧ World.cell? _ _ = _ ∧ World.cell? _ _ = _ ∧ World.cell? _ _ = _ ∧ World.cell? _ _ = _ ∧ World.cell? _ _ = _ ∧ Bw w7 _›); (have hbS := hS.2.2.2.2.2.2); clear hS; (go_at_call 11); refine (c_toLink _ _ _ ss f u _ hn (h.keep ((k3.trans k37).trans hbS))).mono ?_; rintro e w8 ⟨⟨A8, c8, rfl, row8⟩, hb80⟩; have hb8 := hbS.trans hb80) | ((have hS := ‹World.cell? _ _ = _ ∧ World.cell? _ _ = _ ∧ World.cell? _ _ = _ ∧ World.cell? _ _ = _ ∧ World.cell? _ _ = _ ∧ World.cell? _ _ = _ ∧ Bw w7 _›); (have hbS := hS.2.2.2.2.2.2); clear hS; (go_at_call 13); refine (c_eqLink _ _ _ _ _ ss f u _ hm (rd4.keep ((k45.trans k57).trans hbS)) (row8.rd (fun _ => rfl))).mono ?_; rintro e w9 ⟨rfl, hb90⟩; have hb9 := hbS.trans hb90) | fail)
  have k59 := k57.trans hb9
  have hG9 := hG7.keep hb9
  have hB9 := hB7.keep hb9
  have hW9 := hW7.keep hb9
  have hX9 := hX7.keep hb9
  clear y0 y1 y2 x0 x1 x2 hG7 hB7 hW7 hX7
  have ⟨x0, x1, x2⟩ := hX9
  go_wp2_with fail
  clear x0 x1 x2
  refine (c_markLink f u _ _ _ ss _ _ hn (row4.keep (k45.trans k59))).mono ?_
  rintro e w10 ⟨rfl, hg10⟩
  have s34 := k34.size
  have s3 : w3.heap.size + 1 ≤ w4.heap.size := by have := hb4.size; simpa using this
  have l4 : ∀ x, A4 = some x → w3.heap.size + 1 ≤ x.block ∧ x.block < w4.heap.size := fun x hx => by have := lt4 x hx; simpa using this
  have lg : ∀ x, Ag = some x → w4.heap.size + 1 ≤ x.block ∧ x.block < w5.heap.size := fun x hx => by have := ltg x hx; simpa using this
  have s45 : w4.heap.size + 1 ≤ w5.heap.size := by have := hb5.size; simpa using this
  have B310 : Bw w3 w10 := Bw.ofRow ((k34.trans k45).trans k59) hg10 (fun x hx => by have := (l4 x hx).1; omega)
  have rowg10 := (rowg.keep k59).apart hg10 (fun x y hx hy he => by have := (l4 x hx).2; have := (lg y hy).1; omega)
  have hG10 := hG9.grown hg10 (own_ne (fun x hx he => by have := (l4 x hx).2; omega))
  have hB10 := hB9.grown hg10 (own_ne (fun x hx he => by have := (l4 x hx).1; omega))
  have hW10 := hW9.grown hg10 (own_ne (fun x hx he => by have := (l4 x hx).1; omega))
  clear hG9 hB9 hW9 hX9
  have ⟨g0, g1, g2⟩ := hG10
  have ⟨e0, e1, e2⟩ := hW10
  go_wp2_with fail
  refine (c_eqLink _ _ _ _ _ [] F U _ (by omega) Rd.zero Rd.zero).mono ?_
  rintro e w11 ⟨rfl, hb11⟩
  clear g0 g1 g2 e0 e1 e2
  go_wp2_with fail
  refine (c_eqStringS _ _ _ _ _ L _ hL ((rowg10.keep hb11).rd (fun _ => rfl)) (rdw.keep (B310.trans hb11))).mono ?_
  rintro e w12 ⟨rfl, hb12⟩
  have k1012 := hb11.trans hb12
  have hG12 := hG10.keep k1012
  have ⟨g0, g1, g2⟩ := hG12
  go_wp2_with fail
  clear g0 g1 g2
  refine (c_markLinkA _ _ F U _).mono ?_
  rintro e w13 ⟨rfl, hb13⟩
  have k1013 := k1012.trans hb13
  go_wp2_with fail
  refine (c_markStringSE _ _ _ _ 1 _ _ hL2 (by omega) (by omega) (rowg10.keep k1013)).mono ?_
  rintro e w14 ⟨rfl, rowg14, hg14⟩
  have B314 : Bw w3 w14 := Bw.ofRow (B310.trans k1013) hg14 (fun x hx => by have := (lg x hx).1; omega)
  have hG14 := (hG10.keep k1013).grown hg14 (own_ne (fun x hx he => by have := (lg x hx).2; omega))
  have hB14 := (hB10.keep k1013).grown hg14 (own_ne (fun x hx he => by have := (lg x hx).1; omega))
  have hW14 := (hW10.keep k1013).grown hg14 (own_ne (fun x hx he => by have := (lg x hx).1; omega))
  have rdg14 := rowg14.rd (fun _ => rfl)
  clear hG10 hB10 hW10 hG12
  have ⟨g0, g1, g2⟩ := hG14
  go_wp2_with fail
  clear g0 g1 g2
  refine (c_heldLinkA _ _ F U _).mono ?_
  rintro e w15 ⟨rfl, hb15⟩
  go_wp2_with fail
  refine (c_heldStringSE _ _ _ 1 _ hL2 (by omega) (by omega) (rdg14.keep hb15)).mono ?_
  rintro e w16 ⟨rfl, hb16⟩
  have k1416 := hb15.trans hb16
  have hB16 := hB14.keep k1416
  have ⟨d0, d1, d2⟩ := hB16
  go_wp2_with fail
  clear d0 d1 d2
  refine (c_toLink _ _ _ ss f u _ hn (h.keep (k3.trans (B314.trans k1416)))).mono ?_
  rintro e w17 ⟨⟨A17, c17, rfl, row17⟩, hb17⟩
  go_wp2_with fail
  refine (HI.out _ _ _ hm (row17.rd (fun _ => rfl))).mono ?_
  rintro e w18 ⟨⟨As, cs, Ah, ch, rfl, rowh⟩, hb18⟩
  have k1418 := (k1416.trans hb17).trans hb18
  have hW18 := hW14.keep k1418
  have ltW18 := hW18.lt
  have a18 := (Bw.refl w18).alloc (.cells #[.slice As 0 cs, .string F, .int .i64 U] 27)
  have ⟨e0, e1, e2⟩ := hW18
  go_wp2_with fail
  clear e0 e1 e2
  refine (c_eqLink _ _ _ _ _ [] F U _ (by omega) Rd.zero Rd.zero).mono ?_
  rintro e w19 ⟨rfl, hb19⟩
  have k1819 := a18.trans hb19
  go_wp2_with fail
  refine (c_eqStringS _ _ _ _ _ L _ hL ((rowh.keep k1819).rd (fun _ => rfl)) (rdw.keep ((B314.trans k1418).trans k1819))).mono ?_
  rintro e w20 ⟨rfl, hb20⟩
  have k1420 := (k1418.trans k1819).trans hb20
  have hG20 := hG14.keep k1420
  have ⟨g0, g1, g2⟩ := hG20
  go_wp2_with fail
  clear g0 g1 g2
  refine (c_heldLinkA _ _ F U _).mono ?_
  rintro e w21 ⟨rfl, hb21⟩
  go_wp2_with fail
  refine (c_heldStringSE _ _ _ 1 _ hL2 (by omega) (by omega) (rdg14.keep (k1420.trans hb21))).mono ?_
  rintro e w22 ⟨rfl, hb22⟩
  go_wp2_with fail
  go_ret
  exact ⟨rfl, ((k3.trans B314).trans (k1420.trans hb21)).trans hb22⟩
end Go.Proofs.YtilgllbojdkhhaaDoor
