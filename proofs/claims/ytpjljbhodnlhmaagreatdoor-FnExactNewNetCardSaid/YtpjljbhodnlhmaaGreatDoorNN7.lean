
/- Marks in a new network, to the letter. -/
import Derived.Test.YtpjljbhodnlhmaaGreatDoorNN6
namespace Go.Proofs.YtpjljbhodnlhmaaGreatDoor
open Go.RowKit
section
variable {W W' : World} {lo n m : Nat} {ps ps' : List Int} {B : Option Addr} {d : Nat} {E R Q U : Option Addr} {ce cr cq cu : Nat} {es es' : List Int} {rs rs' : List (Bool × Int × Int)} {us : List Unit}
theorem NM.set0 (h : NM W lo n m ps B d E R Q U ce cr cq cu es rs us) (r : Row W' lo 3 1 icell B n d ps') (hg : W.grownBy W' (Value.ownBlock (.slice B n d))) : NM W' lo n m ps' B d E R Q U ce cr cq cu es rs us :=
  ⟨r, h.r1.far hg h.a01.symm, h.r2.far hg h.a02.symm, h.r3.far hg h.a03.symm, h.r4.far hg h.a04.symm, h.a01, h.a02, h.a03, h.a04, h.a12, h.a13, h.a14, h.a23, h.a24⟩
theorem NM.set1 (h : NM W lo n m ps B d E R Q U ce cr cq cu es rs us) (r : Row W' lo 89 2 eE E m ce es') (hg : W.grownBy W' (Value.ownBlock (.slice E m ce))) : NM W' lo n m ps B d E R Q U ce cr cq cu es' rs us :=
  ⟨h.r0.far hg h.a01, r, h.r2.far hg h.a12.symm, h.r3.far hg h.a13.symm, h.r4.far hg h.a14.symm, h.a01, h.a02, h.a03, h.a04, h.a12, h.a13, h.a14, h.a23, h.a24⟩
theorem NM.set2 (h : NM W lo n m ps B d E R Q U ce cr cq cu es rs us) (r : Row W' lo 96 5 eR R m cr rs') (hg : W.grownBy W' (Value.ownBlock (.slice R m cr))) : NM W' lo n m ps B d E R Q U ce cr cq cu es rs' us :=
  ⟨h.r0.far hg h.a02, h.r1.far hg h.a12, r, h.r3.far hg h.a23.symm, h.r4.far hg h.a24.symm, h.a01, h.a02, h.a03, h.a04, h.a12, h.a13, h.a14, h.a23, h.a24⟩
theorem NC.far {b : Nat} {T Z : Int} {A : Option Addr} {k c : Nat} (h : NC W b B n d T Z E R Q U m ce cr cq cu) (hg : W.grownBy W' (Value.ownBlock (.slice A k c))) (hA : ∀ x, A = some x → x.block ≠ b) : NC W' b B n d T Z E R Q U m ce cr cq cu := by
  have hne : ∀ q, some (⟨b, q, none⟩ : Addr).block ≠ Value.ownBlock (.slice A k c) := fun q he => by
    cases A with
    | none => simp [Value.ownBlock] at he
    | some y => simp only [Value.ownBlock, Option.some.injEq] at he; exact hA y rfl he.symm
  exact ⟨hg.cell h.c0 (hne _), hg.cell h.c1 (hne _), hg.cell h.c2 (hne _), hg.cell h.c3 (hne _), hg.cell h.c4 (hne _), hg.cell h.c5 (hne _), hg.cell h.c6 (hne _), hg.cell h.c7 (hne _), hg.cell h.c8 (hne _), hg.cell h.c9 (hne _), hg.cell h.c10 (hne _)⟩
theorem NC.below {b lo' : Nat} {T Z : Int} (h : NC W b B n d T Z E R Q U m ce cr cq cu) (hb : Below lo' W W') (hlt : b < lo') : NC W' b B n d T Z E R Q U m ce cr cq cu := ⟨(hb.cell hlt).trans h.c0, (hb.cell hlt).trans h.c1, (hb.cell hlt).trans h.c2, (hb.cell hlt).trans h.c3, (hb.cell hlt).trans h.c4, (hb.cell hlt).trans h.c5, (hb.cell hlt).trans h.c6, (hb.cell hlt).trans h.c7, (hb.cell hlt).trans h.c8, (hb.cell hlt).trans h.c9, (hb.cell hlt).trans h.c10⟩
theorem NM.off {A : Option Addr} {k c : Nat} (h : NM W lo n m ps B d E R Q U ce cr cq cu es rs us) (hg : W.grownBy W' (Value.ownBlock (.slice A k c))) (hA : ∀ x, A = some x → x.block < lo) : NM W' lo n m ps B d E R Q U ce cr cq cu es rs us := by
  have hh : ∀ {T : Type} {e : TypeId} {sz : Nat} {enc : T → List Value} {X : Option Addr} {n' c' : Nat} {ts : List T}, Row W lo e sz enc X n' c' ts → Ap X A := fun r x y hx hy => by have h1 := (r.lt x hx).1; have h2 := hA y hy; omega
  exact ⟨h.r0.far hg (hh h.r0), h.r1.far hg (hh h.r1), h.r2.far hg (hh h.r2), h.r3.far hg (hh h.r3), h.r4.far hg (hh h.r4), h.a01, h.a02, h.a03, h.a04, h.a12, h.a13, h.a14, h.a23, h.a24⟩
end
set_option maxRecDepth 100000 in
theorem n_markNet (T Z : Int) (n m lo : Nat) (ps : List Int) (es : List Int) (rs : List (Bool × Int × Int)) (us : List Unit) (B E R Q U : Option Addr) (d ce cr cq cu : Nat) (k0 : Int) (w : World) (hn : n ≤ 1048576) (hm : m ≤ 1048576) (hk0 : 0 ≤ k0) (hk1 : k0 ≤ 100000000) (hlo : lo ≤ w.heap.size)
    (h : NM w lo n m ps B d E R Q U ce cr cq cu es rs us) (bx : Nat) (nx : NC w bx B n d T Z E R Q U m ce cr cq cu) (x0 : ∀ x, B = some x → x.block ≠ bx) (x1 : ∀ x, E = some x → x.block ≠ bx) (x2 : ∀ x, R = some x → x.block ≠ bx) :
    Calls Tryz.prog 12 #[.agg #[.slice B n d, .int .i64 T, .int .i64 Z, .slice none 0 0, .int .i64 0, .int .i64 0, .slice none 0 0, .slice E m ce, .slice R m cr, .slice Q m cq, .slice U m cu], .int .i64 k0] w fun e w' => e = .returned (.int .i64 (k0 + n + m + 3 * m)) ∧ NM w' lo n m (marksI n k0) B d E R Q U ce cr cq cu (marksI m (k0 + n)) (marksR m (k0 + n + m)) us ∧ Below lo w w' ∧ NC w' bx B n d T Z E R Q U m ce cr cq cu := by
  have na := NC.new w 37 B n d T Z E R Q U m ce cr cq cu
  have kb : Bw w (w.alloc (.cells #[.slice B n d, .int .i64 T, .int .i64 Z, .slice none 0 0, .int .i64 0, .int .i64 0, .slice none 0 0, .slice E m ce, .slice R m cr, .slice Q m cq, .slice U m cu] 37)) := Bw.alloc (Bw.refl _) _
  have hbl : Below lo w (w.alloc (.cells #[.slice B n d, .int .i64 T, .int .i64 Z, .slice none 0 0, .int .i64 0, .int .i64 0, .slice none 0 0, .slice E m ce, .slice R m cr, .slice Q m cq, .slice U m cu] 37)) := kb.b.mono hlo
  have f0 : ∀ x, B = some x → x.block ≠ w.heap.size := fun x hx => by have := (h.r0.lt x hx).2; omega
  have f1 : ∀ x, E = some x → x.block ≠ w.heap.size := fun x hx => by have := (h.r1.lt x hx).2; omega
  have f2 : ∀ x, R = some x → x.block ≠ w.heap.size := fun x hx => by have := (h.r2.lt x hx).2; omega
  have hN := h.keep kb
  have hz : lo ≤ (w.alloc (.cells #[.slice B n d, .int .i64 T, .int .i64 Z, .slice none 0 0, .int .i64 0, .int .i64 0, .slice none 0 0, .slice E m ce, .slice R m cr, .slice Q m cq, .slice U m cu] 37)).heap.size := Nat.le_trans hlo kb.size
  clear h
  have F0 := Lib.hid f0
  have F1 := Lib.hid f1
  have F2 := Lib.hid f2
  clear f0 f1 f2
  have X0 := Lib.hid x0
  have X1 := Lib.hid x1
  have X2 := Lib.hid x2
  have nx0 := Lib.hid (nx.keep kb)
  clear x0 x1 x2 nx
  go_enter Tryz.func12, Tryz.ntmps12
  go_wp2_with fail
  refine (n_markTree _ _ _ ps k0 lo _ hn hk0 (by omega) hN.r0).mono ?_
  rintro e w1 ⟨rfl, row1, hg1⟩
  have hN1 := hN.set0 row1 hg1
  have na1 := na.far hg1 F0.out
  have nx1 := Lib.hid (nx0.out.far hg1 X0.out)
  have hz1 := Nat.le_trans hz hg1.size
  have hbl1 := hbl.trans (hN.r0.below hz hg1)
  clear na hN hbl
  have na := na1
  have ⟨x0, x1, x2, x3, x4, x5, x6, x7, x8, x9, x10⟩ := na
  go_wp2_with fail
  clear x0 x1 x2 x3 x4 x5 x6 x7 x8 x9 x10
  refine (n_markSource T Z (k0 + n) (by omega) _).mono ?_
  rintro e w2 ⟨rfl, hb2⟩
  have hN2 := hN1.keep hb2
  replace na := na.keep hb2
  have nx2 := Lib.hid (nx1.out.keep hb2)
  have hz2 := Nat.le_trans hz1 hb2.size
  have hbl2 := hbl1.trans (hb2.b.mono hz1)
  have ⟨x0, x1, x2, x3, x4, x5, x6, x7, x8, x9, x10⟩ := na
  go_wp2_with fail
  clear x0 x1 x2 x3 x4 x5 x6 x7 x8 x9 x10
  refine (n_markElementS _ _ _ es (k0 + n) lo _ hm (by omega) (by omega) hN2.r1).mono ?_
  rintro e w3 ⟨rfl, row3, hg3⟩
  have hN3 := hN2.set1 row3 hg3
  replace na := na.far hg3 F1.out
  have nx3 := Lib.hid (nx2.out.far hg3 X1.out)
  have hz3 := Nat.le_trans hz2 hg3.size
  have hbl3 := hbl2.trans (hN2.r1.below hz2 hg3)
  have ⟨x0, x1, x2, x3, x4, x5, x6, x7, x8, x9, x10⟩ := na
  go_wp2_with fail
  clear x0 x1 x2 x3 x4 x5 x6 x7 x8 x9 x10
  refine (n_markReceiverS _ _ _ rs (k0 + n + m) lo _ hm (by omega) (by omega) hN3.r2).mono ?_
  rintro e w4 ⟨rfl, row4, hg4⟩
  have hN4 := hN3.set2 row4 hg4
  replace na := na.far hg4 F2.out
  have nx4 := Lib.hid (nx3.out.far hg4 X2.out)
  have hbl4 := hbl3.trans (hN3.r2.below hz3 hg4)
  have ⟨x0, x1, x2, x3, x4, x5, x6, x7, x8, x9, x10⟩ := na
  go_wp2_with fail
  clear x0 x1 x2 x3 x4 x5 x6 x7 x8 x9 x10
  refine (n_markPacketSS _ _ _ us _ _ hm (by omega) (hN4.r3.rd (fun _ => rfl))).mono ?_
  rintro e w5 ⟨rfl, rfl⟩
  have ⟨x0, x1, x2, x3, x4, x5, x6, x7, x8, x9, x10⟩ := na
  go_wp2_with fail
  clear x0 x1 x2 x3 x4 x5 x6 x7 x8 x9 x10
  refine (n_markPacketSS _ _ _ us _ _ hm (by omega) (hN4.r4.rd (fun _ => rfl))).mono ?_
  rintro e w6 ⟨rfl, rfl⟩
  go_wp2_with fail
  go_ret
  exact ⟨rfl, hN4, hbl4, nx4.out⟩
set_option maxRecDepth 100000 in
theorem n_heldNet (T Z : Int) (n m : Nat) (us : List Unit) (B E R Q U : Option Addr) (d ce cr cq cu : Nat) (k0 : Int) (w : World) (hn : n ≤ 1048576) (hm : m ≤ 1048576) (hk0 : 0 ≤ k0) (hk1 : k0 ≤ 100000000)
    (h0 : Rd w B n 1 ((marksI n k0).map icell)) (h1 : Rd w E m 2 ((marksI m (k0 + n)).map eE)) (h2 : Rd w R m 5 ((marksR m (k0 + n + m)).map eR)) (h3 : Rd w Q m 1 (us.map eQ)) (h4 : Rd w U m 1 (us.map eQ)) :
    Calls Tryz.prog 13 #[.agg #[.slice B n d, .int .i64 T, .int .i64 Z, .slice none 0 0, .int .i64 0, .int .i64 0, .slice none 0 0, .slice E m ce, .slice R m cr, .slice Q m cq, .slice U m cu], .int .i64 k0] w fun e w' => e = .returned (.int .i64 (k0 + n + m + 3 * m)) ∧ Bw w w' := by
  have na := NC.new w 37 B n d T Z E R Q U m ce cr cq cu
  have kb : Bw w (w.alloc (.cells #[.slice B n d, .int .i64 T, .int .i64 Z, .slice none 0 0, .int .i64 0, .int .i64 0, .slice none 0 0, .slice E m ce, .slice R m cr, .slice Q m cq, .slice U m cu] 37)) := Bw.alloc (Bw.refl _) _
  go_enter Tryz.func13, Tryz.ntmps13
  go_wp2_with fail
  refine (n_heldTree _ _ _ k0 _ hn hk0 (by omega) (h0.keep kb)).mono ?_
  rintro e w1 ⟨rfl, hb1⟩
  replace na := na.keep hb1
  replace kb := kb.trans hb1
  have ⟨x0, x1, x2, x3, x4, x5, x6, x7, x8, x9, x10⟩ := na
  go_wp2_with fail
  clear x0 x1 x2 x3 x4 x5 x6 x7 x8 x9 x10
  refine (n_heldSource T Z (k0 + n) (by omega) _).mono ?_
  rintro e w2 ⟨rfl, hb2⟩
  replace na := na.keep hb2
  replace kb := kb.trans hb2
  have ⟨x0, x1, x2, x3, x4, x5, x6, x7, x8, x9, x10⟩ := na
  go_wp2_with fail
  clear x0 x1 x2 x3 x4 x5 x6 x7 x8 x9 x10
  refine (n_heldElementS _ _ _ (k0 + n) _ hm (by omega) (by omega) (h1.keep kb)).mono ?_
  rintro e w3 ⟨rfl, rfl⟩
  have ⟨x0, x1, x2, x3, x4, x5, x6, x7, x8, x9, x10⟩ := na
  go_wp2_with fail
  clear x0 x1 x2 x3 x4 x5 x6 x7 x8 x9 x10
  refine (n_heldReceiverS _ _ _ (k0 + n + m) _ hm (by omega) (by omega) (h2.keep kb)).mono ?_
  rintro e w4 ⟨rfl, rfl⟩
  have ⟨x0, x1, x2, x3, x4, x5, x6, x7, x8, x9, x10⟩ := na
  go_wp2_with fail
  clear x0 x1 x2 x3 x4 x5 x6 x7 x8 x9 x10
  refine (n_heldPacketSS _ _ _ us _ _ hm (by omega) (h3.keep kb)).mono ?_
  rintro e w5 ⟨rfl, rfl⟩
  have ⟨x0, x1, x2, x3, x4, x5, x6, x7, x8, x9, x10⟩ := na
  go_wp2_with fail
  clear x0 x1 x2 x3 x4 x5 x6 x7 x8 x9 x10
  refine (n_heldPacketSS _ _ _ us _ _ hm (by omega) (h4.keep kb)).mono ?_
  rintro e w6 ⟨rfl, rfl⟩
  go_wp2_with fail
  go_ret
  exact ⟨rfl, kb⟩
end Go.Proofs.YtpjljbhodnlhmaaGreatDoor
