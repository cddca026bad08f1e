
/- The law FnExactRunTimers: the walk. -/
import Derived.Test.YtdfjdfhldijjbaaT8
namespace Go.Proofs.Ytdfjdfhldijjbaa
open Go.RowKit
theorem Duo.far {w w' : World} {lo : Nat} {A : Option Addr} {c : Nat} {ts : List Timer} {B : Option Addr} {d : Nat} {is : List Int} (h : Duo w lo A c ts B d is) {X : Option Addr} {m q : Nat} (hg : w.grownBy w' (Value.ownBlock (.slice X m q))) (hx : ∀ x, X = some x → x.block < lo) : Duo w' lo A c ts B d is := by
  have key : ∀ {D : Option Addr}, (∀ x, D = some x → lo ≤ x.block) → Apart X D := fun hD x y hX hY he => by
    have := hx x hX; have := hD y hY; omega
  exact ⟨h.a.apart hg (key fun x hx => (h.a.lt x hx).1), h.b.apart hg (key fun x hx => (h.b.lt x hx).1), h.ab⟩
set_option maxRecDepth 100000 in
set_option maxHeartbeats 1000000 in
theorem w_RunTimers (A : Option Addr) (n c : Nat) (ts : List Timer) (now : Int) (w : World) (hm : n ≤ 9223372036854775807) (h : Rd w A n 3 (ts.map Timer.cells)) :
    Calls Try.prog 11 #[.slice A n c, .int .i64 now] w fun e w' => e = .returned (.bool true) ∧ Bw w w' := by
  have hlen1 : (runR ts now).1.length ≤ n := by have := h.tlen; have := (runR_lens ts now).1; omega
  have hlen2 : (runR ts now).2.1.length ≤ 50 := (runR_lens ts now).2
  have HI := Lib.hid (fun A c W => c_iRunTimers A n c ts now W)
  have HS := Lib.hid (fun A c W => c_sRunTimers A n c ts now W)
  generalize runR ts now = R at *
  obtain ⟨O, L, rb⟩ := R
  simp only at HI HS hlen1 hlen2
  go_enter Try.func11, Try.ntmps11
  go_wp2_with (go_at_call 18; refine (c_szTimerS _ _ _ hm _).mono ?_; rintro e w1 ⟨⟨m, rfl, hmm⟩, rfl⟩)
  · go_ret
    exact ⟨rfl, Bw.refl _⟩
  have hn : n ≤ 1048576 := by omega
  clear hmm
  have l1 : O.length ≤ 9223372036854775807 := by omega
  have l3 : L.length ≤ 9223372036854775807 := by omega
  have m1 : O.length ≤ 1048576 := by omega
  have m3 : L.length ≤ 1048576 := by omega
  refine (c_toTimerS _ _ _ ts _ hn h).mono ?_
  rintro e w1 ⟨⟨A1, c1, rfl, row1⟩, hb1⟩
  have rd1 := row1.rd (fun _ => rfl)
  go_wp2_with fail
  refine (HS.out _ _ _ hm rd1).mono ?_
  rintro e w2 ⟨⟨Aw, cw, Cw, fw, rfl, triw⟩, hb2⟩
  have wa := triw.a.rd (fun _ => rfl)
  have wc := triw.b.rd (fun _ => rfl)
  have B2 := hb1.trans hb2
  go_wp2_with fail
  refine (c_toTimerS _ _ _ ts _ hn (h.keep B2)).mono ?_
  rintro e w3 ⟨⟨Ax, cx, rfl, rowx⟩, hb3⟩
  have rdx := rowx.rd (fun _ => rfl)
  have ltx := rowx.lt
  go_wp2_with fail
  refine (HI.out _ _ _ hm rdx).mono ?_
  rintro e w4 ⟨⟨Ag, cg, Cg, fg, rfl, trig⟩, hb4⟩
  have B24 := hb3.trans hb4
  go_wp2_with fail
  refine (c_eqTimerS _ _ _ _ _ _ _ l1 (trig.a.rd (fun _ => rfl)) (wa.keep B24)).mono ?_
  rintro e w5 ⟨rfl, hb5⟩
  go_wp2_with fail
  refine (c_eqIntS _ _ _ _ _ _ _ l3 ((trig.keep hb5).b.rd (fun _ => rfl)) (wc.keep (B24.trans hb5))).mono ?_
  rintro e w7 ⟨rfl, hb7⟩
  have B57 := hb5.trans hb7
  go_wp2_with fail
  refine (c_toTimerS _ _ _ ts _ hn (h.keep ((B2.trans B24).trans B57))).mono ?_
  rintro e w8 ⟨⟨A8, c8, rfl, row8⟩, hb8⟩
  have rd8 := row8.rd (fun _ => rfl)
  have B58 := B57.trans hb8
  go_wp2_with fail
  refine (c_eqTimerS _ _ _ _ _ ts _ hm ((rdx.keep hb4).keep B58) rd8).mono ?_
  rintro e w9 ⟨rfl, hb9⟩
  have B59 := B58.trans hb9
  go_wp2_with fail
  refine (c_markTimerS _ _ _ ts 1 _ _ hn (by omega) (by omega) ((rowx.keep hb4).keep B59)).mono ?_
  rintro e w10 ⟨rfl, rowx10, hg10⟩
  have B310 : Bw w2 w10 := Bw.ofRow (B24.trans B59) hg10 (fun x hx => (ltx x hx).1)
  have tri10 := (trig.keep B59).far hg10 (fun x hx => (ltx x hx).2)
  go_wp2_with fail
  refine (c_eqTimerS _ _ _ _ _ _ _ l1 (tri10.a.rd (fun _ => rfl)) (wa.keep B310)).mono ?_
  rintro e w11 ⟨rfl, hb11⟩
  go_wp2_with fail
  refine (c_eqIntS _ _ _ _ _ _ _ l3 ((tri10.keep hb11).b.rd (fun _ => rfl)) (wc.keep (B310.trans hb11))).mono ?_
  rintro e w13 ⟨rfl, hb13⟩
  have b1013 := hb11.trans hb13
  have tri13 := tri10.keep b1013
  have B213 := B310.trans b1013
  have hlo : w2.heap.size ≤ w3.heap.size := hb3.size
  clear tri10 trig
  go_wp2_with fail
  refine (c_markTimerS _ _ _ _ 1 _ _ m1 (by omega) (by omega) tri13.a).mono ?_
  rintro e w14 ⟨rfl, ra14, hg14⟩
  have rc14 := tri13.b.apart hg14 tri13.ab
  have B214 : Bw w2 w14 := Bw.ofRow B213 hg14 (fun x hx => by have := (tri13.a.lt x hx).1; omega)
  go_wp2_with fail
  refine (c_markIntS _ _ _ _ (1 + 3 * (O.length : Int)) _ _ m3 (by omega) (by omega) rc14).mono ?_
  rintro e w16 ⟨rfl, rc16, hg16⟩
  have ra16 := (ra14.apart hg16 tri13.ab.symm).rd (fun _ => rfl)
  have rc16 := rc16.rd (fun _ => rfl)
  have B216 : Bw w2 w16 := Bw.ofRow B214 hg16 (fun x hx => by have := (tri13.b.lt x hx).1; omega)
  go_wp2_with fail
  refine (c_heldTimerS _ _ _ 1 _ m1 (by omega) (by omega) ra16).mono ?_
  rintro e _ ⟨rfl, rfl⟩
  go_wp2_with fail
  refine (c_heldIntS _ _ _ (1 + 3 * (O.length : Int)) _ m3 (by omega) (by omega) rc16).mono ?_
  rintro e _ ⟨rfl, rfl⟩
  go_wp2_with fail
  refine (c_toTimerS _ _ _ ts _ hn (h.keep (B2.trans B216))).mono ?_
  rintro e w17 ⟨⟨A17, c17, rfl, row17⟩, hb17⟩
  have rd17 := row17.rd (fun _ => rfl)
  go_wp2_with fail
  refine (HI.out _ _ _ hm rd17).mono ?_
  rintro e w18 ⟨⟨Ah, ch, Ch, fh, rfl, trih⟩, hb18⟩
  have b1618 := hb17.trans hb18
  go_wp2_with fail
  refine (c_eqTimerS _ _ _ _ _ _ _ l1 (trih.a.rd (fun _ => rfl)) (wa.keep (B216.trans b1618))).mono ?_
  rintro e w19 ⟨rfl, hb19⟩
  go_wp2_with fail
  refine (c_eqIntS _ _ _ _ _ _ _ l3 ((trih.keep hb19).b.rd (fun _ => rfl)) (wc.keep ((B216.trans b1618).trans hb19))).mono ?_
  rintro e w21 ⟨rfl, hb21⟩
  have b1621 := b1618.trans (hb19.trans hb21)
  go_wp2_with fail
  refine (c_heldTimerS _ _ _ 1 _ m1 (by omega) (by omega) (ra16.keep b1621)).mono ?_
  rintro e _ ⟨rfl, rfl⟩
  go_wp2_with fail
  refine (c_heldIntS _ _ _ (1 + 3 * (O.length : Int)) _ m3 (by omega) (by omega) (rc16.keep b1621)).mono ?_
  rintro e _ ⟨rfl, rfl⟩
  go_wp2_with fail
  go_ret
  exact ⟨rfl, (B2.trans B216).trans b1621⟩
end Go.Proofs.Ytdfjdfhldijjbaa
