
/- Equality of networks; marks of their elements, receivers and queues. -/
import Derived.Test.YtpjljbhodnlhmaaGreatDoorNN3
namespace Go.Proofs.YtpjljbhodnlhmaaGreatDoor
open Go.RowKit
/-- A network's box. -/
structure NC (W : World) (b : Nat) (B : Option Addr) (n d : Nat) (T Z : Int) (E R Q U : Option Addr) (m ce cr cq cu : Nat) : Prop where
  c0 : W.cell? ⟨b, 0, none⟩ = some (.slice B n d)
  c1 : W.cell? ⟨b, 1, none⟩ = some (.int .i64 T)
  c2 : W.cell? ⟨b, 2, none⟩ = some (.int .i64 Z)
  c3 : W.cell? ⟨b, 3, none⟩ = some (.slice none 0 0)
  c4 : W.cell? ⟨b, 4, none⟩ = some (.int .i64 0)
  c5 : W.cell? ⟨b, 5, none⟩ = some (.int .i64 0)
  c6 : W.cell? ⟨b, 6, none⟩ = some (.slice none 0 0)
  c7 : W.cell? ⟨b, 7, none⟩ = some (.slice E m ce)
  c8 : W.cell? ⟨b, 8, none⟩ = some (.slice R m cr)
  c9 : W.cell? ⟨b, 9, none⟩ = some (.slice Q m cq)
  c10 : W.cell? ⟨b, 10, none⟩ = some (.slice U m cu)
section
variable {W W' : World} {b : Nat} {B : Option Addr} {n d : Nat} {T Z : Int} {E R Q U : Option Addr} {m ce cr cq cu : Nat}
theorem NC.keep (h : NC W b B n d T Z E R Q U m ce cr cq cu) (k : Bw W W') : NC W' b B n d T Z E R Q U m ce cr cq cu := ⟨k.cellv h.c0, k.cellv h.c1, k.cellv h.c2, k.cellv h.c3, k.cellv h.c4, k.cellv h.c5, k.cellv h.c6, k.cellv h.c7, k.cellv h.c8, k.cellv h.c9, k.cellv h.c10⟩
theorem NC.new (W : World) (ty : Nat) (B : Option Addr) (n d : Nat) (T Z : Int) (E R Q U : Option Addr) (m ce cr cq cu : Nat) : NC (W.alloc (.cells #[.slice B n d, .int .i64 T, .int .i64 Z, .slice none 0 0, .int .i64 0, .int .i64 0, .slice none 0 0, .slice E m ce, .slice R m cr, .slice Q m cq, .slice U m cu] ty)) W.heap.size B n d T Z E R Q U m ce cr cq cu := ⟨by simp [go_sem], by simp [go_sem], by simp [go_sem], by simp [go_sem], by simp [go_sem], by simp [go_sem], by simp [go_sem], by simp [go_sem], by simp [go_sem], by simp [go_sem], by simp [go_sem]⟩
end
set_option maxRecDepth 100000 in
theorem n_eqNet (T Z : Int) (n m : Nat) (ps : List Int) (es : List Int) (rs : List (Bool × Int × Int)) (us : List Unit) (B B' E E' R R' Q Q' U U' : Option Addr) (d d' ce ce' cr cr' cq cq' cu cu' : Nat) (w : World) (hn : n ≤ 9223372036854775807) (hm : m ≤ 9223372036854775807)
    (h0 : Rd w B n 1 (ps.map icell)) (h1 : Rd w E m 2 (es.map eE)) (h2 : Rd w R m 5 (rs.map eR)) (h3 : Rd w Q m 1 (us.map eQ)) (h4 : Rd w U m 1 (us.map eQ))
    (h0' : Rd w B' n 1 (ps.map icell)) (h1' : Rd w E' m 2 (es.map eE)) (h2' : Rd w R' m 5 (rs.map eR)) (h3' : Rd w Q' m 1 (us.map eQ)) (h4' : Rd w U' m 1 (us.map eQ)) :
    Calls Tryz.prog 9 #[.agg #[.slice B n d, .int .i64 T, .int .i64 Z, .slice none 0 0, .int .i64 0, .int .i64 0, .slice none 0 0, .slice E m ce, .slice R m cr, .slice Q m cq, .slice U m cu], .agg #[.slice B' n d', .int .i64 T, .int .i64 Z, .slice none 0 0, .int .i64 0, .int .i64 0, .slice none 0 0, .slice E' m ce', .slice R' m cr', .slice Q' m cq', .slice U' m cu']] w fun e w' => e = .returned (.bool true) ∧ Bw w w' := by
  have na0 : ∀ o, NC ((w.alloc (.cells #[.slice B n d, .int .i64 T, .int .i64 Z, .slice none 0 0, .int .i64 0, .int .i64 0, .slice none 0 0, .slice E m ce, .slice R m cr, .slice Q m cq, .slice U m cu] 37)).alloc o) w.heap.size B n d T Z E R Q U m ce cr cq cu := fun o => (NC.new w _ B n d T Z E R Q U m ce cr cq cu).keep (Bw.alloc (Bw.refl _) _)
  have nb0 := fun W => NC.new W 37 B' n d' T Z E' R' Q' U' m ce' cr' cq' cu'
  have kk : Bw w ((w.alloc (.cells #[.slice B n d, .int .i64 T, .int .i64 Z, .slice none 0 0, .int .i64 0, .int .i64 0, .slice none 0 0, .slice E m ce, .slice R m cr, .slice Q m cq, .slice U m cu] 37)).alloc (.cells #[.slice B' n d', .int .i64 T, .int .i64 Z, .slice none 0 0, .int .i64 0, .int .i64 0, .slice none 0 0, .slice E' m ce', .slice R' m cr', .slice Q' m cq', .slice U' m cu'] 37)) := (Bw.alloc (Bw.refl _) _).alloc _
  replace na0 := na0 (.cells #[.slice B' n d', .int .i64 T, .int .i64 Z, .slice none 0 0, .int .i64 0, .int .i64 0, .slice none 0 0, .slice E' m ce', .slice R' m cr', .slice Q' m cq', .slice U' m cu'] 37)
  replace nb0 := nb0 (w.alloc (.cells #[.slice B n d, .int .i64 T, .int .i64 Z, .slice none 0 0, .int .i64 0, .int .i64 0, .slice none 0 0, .slice E m ce, .slice R m cr, .slice Q m cq, .slice U m cu] 37))
  rw [show (w.alloc (.cells #[.slice B n d, .int .i64 T, .int .i64 Z, .slice none 0 0, .int .i64 0, .int .i64 0, .slice none 0 0, .slice E m ce, .slice R m cr, .slice Q m cq, .slice U m cu] 37)).heap.size = w.heap.size + 1 by simp] at nb0
  go_enter Tryz.func9, Tryz.ntmps9
  go_wp2_with fail
  refine (c_eqTree _ _ _ _ _ ps _ hn (h0.keep kk) (h0'.keep kk)).mono ?_
  rintro e w1 ⟨rfl, hb1⟩
  have na1 := na0.keep hb1
  have nb1 := nb0.keep hb1
  replace kk := kk.trans hb1
  have ⟨x0, x1, x2, x3, x4, x5, x6, x7, x8, x9, x10⟩ := na1
  have ⟨y0, y1, y2, y3, y4, y5, y6, y7, y8, y9, y10⟩ := nb1
  go_wp2_with fail
  clear x0 y0 x1 y1 x2 y2 x3 y3 x4 y4 x5 y5 x6 y6 x7 y7 x8 y8 x9 y9 x10 y10
  refine (c_eqSource T Z none none 0 0 0 [] 0 0 none none 0 0 0 [] _ (by omega) (by omega) (Rd.nil _ _ _) (Rd.nil _ _ _) (Rd.nil _ _ _) (Rd.nil _ _ _)).mono ?_
  rintro e w2 ⟨rfl, hb2⟩
  have na2 := na1.keep hb2
  have nb2 := nb1.keep hb2
  replace kk := kk.trans hb2
  have ⟨x0, x1, x2, x3, x4, x5, x6, x7, x8, x9, x10⟩ := na2
  have ⟨y0, y1, y2, y3, y4, y5, y6, y7, y8, y9, y10⟩ := nb2
  go_wp2_with fail
  clear x0 y0 x1 y1 x2 y2 x3 y3 x4 y4 x5 y5 x6 y6 x7 y7 x8 y8 x9 y9 x10 y10
  refine (n_eqElementS _ _ _ _ _ es _ hm (h1.keep kk) (h1'.keep kk)).mono ?_
  rintro e w3 ⟨rfl, hb3⟩
  have na3 := na2.keep hb3
  have nb3 := nb2.keep hb3
  replace kk := kk.trans hb3
  have ⟨x0, x1, x2, x3, x4, x5, x6, x7, x8, x9, x10⟩ := na3
  have ⟨y0, y1, y2, y3, y4, y5, y6, y7, y8, y9, y10⟩ := nb3
  go_wp2_with fail
  clear x0 y0 x1 y1 x2 y2 x3 y3 x4 y4 x5 y5 x6 y6 x7 y7 x8 y8 x9 y9 x10 y10
  refine (n_eqReceiverS _ _ _ _ _ rs _ hm (h2.keep kk) (h2'.keep kk)).mono ?_
  rintro e w4 ⟨rfl, hb4⟩
  have na4 := na3.keep hb4
  have nb4 := nb3.keep hb4
  replace kk := kk.trans hb4
  have ⟨x0, x1, x2, x3, x4, x5, x6, x7, x8, x9, x10⟩ := na4
  have ⟨y0, y1, y2, y3, y4, y5, y6, y7, y8, y9, y10⟩ := nb4
  go_wp2_with fail
  clear x0 y0 x1 y1 x2 y2 x3 y3 x4 y4 x5 y5 x6 y6 x7 y7 x8 y8 x9 y9 x10 y10
  refine (n_eqPacketSS _ _ _ _ _ us _ hm (h3.keep kk) (h3'.keep kk)).mono ?_
  rintro e w5 ⟨rfl, hb5⟩
  have na5 := na4.keep hb5
  have nb5 := nb4.keep hb5
  replace kk := kk.trans hb5
  have ⟨x0, x1, x2, x3, x4, x5, x6, x7, x8, x9, x10⟩ := na5
  have ⟨y0, y1, y2, y3, y4, y5, y6, y7, y8, y9, y10⟩ := nb5
  go_wp2_with fail
  clear x0 y0 x1 y1 x2 y2 x3 y3 x4 y4 x5 y5 x6 y6 x7 y7 x8 y8 x9 y9 x10 y10
  refine (n_eqPacketSS _ _ _ _ _ us _ hm (h4.keep kk) (h4'.keep kk)).mono ?_
  rintro e w6 ⟨rfl, hb6⟩
  replace kk := kk.trans hb6
  go_wp2_with fail
  go_ret
  exact ⟨rfl, kk⟩
end Go.Proofs.YtpjljbhodnlhmaaGreatDoor
