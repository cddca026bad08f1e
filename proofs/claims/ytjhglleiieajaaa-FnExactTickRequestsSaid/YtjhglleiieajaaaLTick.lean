
/- The law FnExactTickRequests: the walk. -/
import Derived.Test.YtjhglleiieajaaaR11
namespace Go.Proofs.Ytjhglleiieajaaa
open Go.RowKit
theorem Tri.far {w w' : World} {lo : Nat} {A : Option Addr} {c : Nat} {os : List Request} {B : Option Addr} {d : Nat} {ss : List Int} {C : Option Addr} {f : Nat} {ls : List Int} (h : Tri w lo A c os B d ss C f ls) {X : Option Addr} {m q : Nat} (hg : w.grownBy w' (Value.ownBlock (.slice X m q))) (hx : ∀ x, X = some x → x.block < lo) : Tri w' lo A c os B d ss C f ls := by
  have key : ∀ {D : Option Addr}, (∀ x, D = some x → lo ≤ x.block) → Apart X D := fun hD x y hX hY he => by
    have := hx x hX; have := hD y hY; omega
  exact ⟨h.a.apart hg (key fun x hx => (h.a.lt x hx).1), h.b.apart hg (key fun x hx => (h.b.lt x hx).1), h.c.apart hg (key fun x hx => (h.c.lt x hx).1), h.ab, h.ac, h.bc⟩
set_option maxRecDepth 100000 in
set_option maxHeartbeats 1000000 in
theorem w_TickRequests (A : Option Addr) (n c : Nat) (ts : List Request) (base clock delay : Int) (w : World) (hm : n ≤ 9223372036854775807) (h : Rd w A n 4 (ts.map Request.cells)) :
    Calls Try.prog 11 #[.slice A n c, .int .i64 base, .int .i64 clock, .int .i64 delay] w fun e w' => e = .returned (.bool true) ∧ Bw w w' := by
  have hlen1 : (tikO ts base clock delay).length ≤ n := by have := h.requestlen; have := tikO_len ts base clock delay; omega
  have hlen2 : (tikS ts base clock delay).length ≤ n := by have := h.requestlen; have := tikS_len ts base clock delay; omega
  have hlen3 : (tikL ts base clock delay).length ≤ n := by have := h.requestlen; have := tikL_len ts base clock delay; omega
  have HI := Lib.hid (fun A c W => c_iTickRequests A n c ts base clock delay W)
  have HS := Lib.hid (fun A c W => c_sTickRequests A n c ts base clock delay W)
  generalize tikO ts base clock delay = O at *
  generalize tikS ts base clock delay = S at *
  generalize tikL ts base clock delay = L at *
  generalize tikB ts base clock delay = rb at *
  go_enter Try.func11, Try.ntmps11
  go_wp2_with (go_at_call 14; refine (c_szRequestS _ _ _ hm _).mono ?_; rintro e w1 ⟨⟨m, rfl, hmm⟩, rfl⟩)
  · go_ret
    exact ⟨rfl, Bw.refl _⟩
  have hn : n ≤ 1048576 := by omega
  clear hmm
  have l1 : O.length ≤ 9223372036854775807 := by omega
  have l2 : S.length ≤ 9223372036854775807 := by omega
  have l3 : L.length ≤ 9223372036854775807 := by omega
  have m1 : O.length ≤ 1048576 := by omega
  have m2 : S.length ≤ 1048576 := by omega
  have m3 : L.length ≤ 1048576 := by omega
  refine (c_toRequestS _ _ _ ts _ hn h).mono ?_
  rintro e w1 ⟨⟨A1, c1, rfl, row1⟩, hb1⟩
  have rd1 := row1.rd (fun _ => rfl)
  go_wp2_with fail
  refine (HS.out _ _ _ hm rd1).mono ?_
  rintro e w2 ⟨⟨Aw, cw, Bw', dw, Cw, fw, rfl, triw⟩, hb2⟩
  have wa := triw.a.rd (fun _ => rfl)
  have wb := triw.b.rd (fun _ => rfl)
  have wc := triw.c.rd (fun _ => rfl)
  have B2 := hb1.trans hb2
  go_wp2_with fail
  refine (c_toRequestS _ _ _ ts _ hn (h.keep B2)).mono ?_
  rintro e w3 ⟨⟨Ax, cx, rfl, rowx⟩, hb3⟩
  have rdx := rowx.rd (fun _ => rfl)
  have ltx := rowx.lt
  go_wp2_with fail
  refine (HI.out _ _ _ hm rdx).mono ?_
  rintro e w4 ⟨⟨Ag, cg, Bg, dg, Cg, fg, rfl, trig⟩, hb4⟩
  have B24 := hb3.trans hb4
  go_wp2_with fail
  refine (c_eqRequestS _ _ _ _ _ _ _ l1 (trig.a.rd (fun _ => rfl)) (wa.keep B24)).mono ?_
  rintro e w5 ⟨rfl, hb5⟩
  go_wp2_with fail
  refine (c_eqIntS _ _ _ _ _ _ _ l2 ((trig.keep hb5).b.rd (fun _ => rfl)) (wb.keep (B24.trans hb5))).mono ?_
  rintro e w6 ⟨rfl, hb6⟩
  have B56 := hb5.trans hb6
  go_wp2_with fail
  refine (c_eqIntS _ _ _ _ _ _ _ l3 ((trig.keep B56).c.rd (fun _ => rfl)) (wc.keep (B24.trans B56))).mono ?_
  rintro e w7 ⟨rfl, hb7⟩
  have B57 := B56.trans hb7
  go_wp2_with fail
  refine (c_toRequestS _ _ _ ts _ hn (h.keep ((B2.trans B24).trans B57))).mono ?_
  rintro e w8 ⟨⟨A8, c8, rfl, row8⟩, hb8⟩
  have rd8 := row8.rd (fun _ => rfl)
  have B58 := B57.trans hb8
  go_wp2_with fail
  refine (c_eqRequestS _ _ _ _ _ ts _ hm ((rdx.keep hb4).keep B58) rd8).mono ?_
  rintro e w9 ⟨rfl, hb9⟩
  have B59 := B58.trans hb9
  go_wp2_with fail
  refine (c_markRequestS _ _ _ ts 1 _ _ hn (by omega) (by omega) ((rowx.keep hb4).keep B59)).mono ?_
  rintro e w10 ⟨rfl, rowx10, hg10⟩
  have B310 : Bw w2 w10 := Bw.ofRow (B24.trans B59) hg10 (fun x hx => (ltx x hx).1)
  have tri10 := (trig.keep B59).far hg10 (fun x hx => (ltx x hx).2)
  go_wp2_with fail
  refine (c_eqRequestS _ _ _ _ _ _ _ l1 (tri10.a.rd (fun _ => rfl)) (wa.keep B310)).mono ?_
  rintro e w11 ⟨rfl, hb11⟩
  go_wp2_with fail
  refine (c_eqIntS _ _ _ _ _ _ _ l2 ((tri10.keep hb11).b.rd (fun _ => rfl)) (wb.keep (B310.trans hb11))).mono ?_
  rintro e w12 ⟨rfl, hb12⟩
  have b1012 := hb11.trans hb12
  go_wp2_with fail
  refine (c_eqIntS _ _ _ _ _ _ _ l3 ((tri10.keep b1012).c.rd (fun _ => rfl)) (wc.keep (B310.trans b1012))).mono ?_
  rintro e w13 ⟨rfl, hb13⟩
  have tri13 := tri10.keep (b1012.trans hb13)
  have B213 := (B310.trans b1012).trans hb13
  have hlo : w2.heap.size ≤ w3.heap.size := hb3.size
  clear tri10 trig
  go_wp2_with fail
  refine (c_markRequestS _ _ _ _ 1 _ _ m1 (by omega) (by omega) tri13.a).mono ?_
  rintro e w14 ⟨rfl, ra14, hg14⟩
  have rb14 := tri13.b.apart hg14 tri13.ab
  have rc14 := tri13.c.apart hg14 tri13.ac
  have B214 : Bw w2 w14 := Bw.ofRow B213 hg14 (fun x hx => by have := (tri13.a.lt x hx).1; omega)
  go_wp2_with fail
  refine (c_markIntS _ _ _ _ (1 + 4 * (O.length : Int)) _ _ m2 (by omega) (by omega) rb14).mono ?_
  rintro e w15 ⟨rfl, rb15, hg15⟩
  have ra15 := ra14.apart hg15 tri13.ab.symm
  have rc15 := rc14.apart hg15 tri13.bc
  have B215 : Bw w2 w15 := Bw.ofRow B214 hg15 (fun x hx => by have := (tri13.b.lt x hx).1; omega)
  go_wp2_with fail
  refine (c_markIntS _ _ _ _ (1 + 4 * (O.length : Int) + (S.length : Int)) _ _ m3 (by omega) (by omega) rc15).mono ?_
  rintro e w16 ⟨rfl, rc16, hg16⟩
  have ra16 := (ra15.apart hg16 tri13.ac.symm).rd (fun _ => rfl)
  have rb16 := (rb15.apart hg16 tri13.bc.symm).rd (fun _ => rfl)
  have rc16 := rc16.rd (fun _ => rfl)
  have B216 : Bw w2 w16 := Bw.ofRow B215 hg16 (fun x hx => by have := (tri13.c.lt x hx).1; omega)
  go_wp2_with fail
  refine (c_heldRequestS _ _ _ 1 _ m1 (by omega) (by omega) ra16).mono ?_
  rintro e _ ⟨rfl, rfl⟩
  go_wp2_with fail
  refine (c_heldIntS _ _ _ (1 + 4 * (O.length : Int)) _ m2 (by omega) (by omega) rb16).mono ?_
  rintro e _ ⟨rfl, rfl⟩
  go_wp2_with fail
  refine (c_heldIntS _ _ _ (1 + 4 * (O.length : Int) + (S.length : Int)) _ m3 (by omega) (by omega) rc16).mono ?_
  rintro e _ ⟨rfl, rfl⟩
  go_wp2_with fail
  refine (c_toRequestS _ _ _ ts _ hn (h.keep (B2.trans B216))).mono ?_
  rintro e w17 ⟨⟨A17, c17, rfl, row17⟩, hb17⟩
  have rd17 := row17.rd (fun _ => rfl)
  go_wp2_with fail
  refine (HI.out _ _ _ hm rd17).mono ?_
  rintro e w18 ⟨⟨Ah, ch, Bh, dh, Ch, fh, rfl, trih⟩, hb18⟩
  have b1618 := hb17.trans hb18
  go_wp2_with fail
  refine (c_eqRequestS _ _ _ _ _ _ _ l1 (trih.a.rd (fun _ => rfl)) (wa.keep (B216.trans b1618))).mono ?_
  rintro e w19 ⟨rfl, hb19⟩
  go_wp2_with fail
  refine (c_eqIntS _ _ _ _ _ _ _ l2 ((trih.keep hb19).b.rd (fun _ => rfl)) (wb.keep ((B216.trans b1618).trans hb19))).mono ?_
  rintro e w20 ⟨rfl, hb20⟩
  have b1920 := hb19.trans hb20
  go_wp2_with fail
  refine (c_eqIntS _ _ _ _ _ _ _ l3 ((trih.keep b1920).c.rd (fun _ => rfl)) (wc.keep ((B216.trans b1618).trans b1920))).mono ?_
  rintro e w21 ⟨rfl, hb21⟩
  have b1621 := b1618.trans (b1920.trans hb21)
  go_wp2_with fail
  refine (c_heldRequestS _ _ _ 1 _ m1 (by omega) (by omega) (ra16.keep b1621)).mono ?_
  rintro e _ ⟨rfl, rfl⟩
  go_wp2_with fail
  refine (c_heldIntS _ _ _ (1 + 4 * (O.length : Int)) _ m2 (by omega) (by omega) (rb16.keep b1621)).mono ?_
  rintro e _ ⟨rfl, rfl⟩
  go_wp2_with fail
  refine (c_heldIntS _ _ _ (1 + 4 * (O.length : Int) + (S.length : Int)) _ m3 (by omega) (by omega) (rc16.keep b1621)).mono ?_
  rintro e _ ⟨rfl, rfl⟩
  go_wp2_with fail
  go_ret
  exact ⟨rfl, (B2.trans B216).trans b1621⟩
end Go.Proofs.Ytjhglleiieajaaa
