
/- The law FnExactAddRequest: the walk. -/
import Derived.Test.YtjhglleiieajaaaR13
namespace Go.Proofs.Ytjhglleiieajaaa
open Go.RowKit
theorem w_AddRequest (A : Option Addr) (n c : Nat) (ts : List Request) (base number clock delay : Int) (w : World) (hm : n ≤ 9223372036854775807) (h : Rd w A n 4 (ts.map Request.cells)) :
    Calls Try.prog 12 #[.slice A n c, .int .i64 base, .int .i64 number, .int .i64 clock, .int .i64 delay] w fun e w' => e = .returned (.bool true) ∧ Bw w w' := by
  have hlen : (addR ts base number clock delay).length ≤ 9 := by 
    unfold addR; split
    · rename_i hh
      simp only [addB, addC, Bool.and_eq_true] at hh
      have := (goodR_iff.1 hh.1.1.1).2.1
      rw [addL_len]; omega
    · simp
  generalize hR : addR ts base number clock delay = L at hlen
  generalize hB : addB ts base number clock delay = rb
  have HR := Lib.hid hR
  have HB := Lib.hid hB
  clear hR hB
  have hL : L.length ≤ 9223372036854775807 := by omega
  by_cases hL2 : L.length ≤ 1048576
  · go_enter Try.func12, Try.ntmps12
    go_wp2_with (go_at_call 14; refine (c_szRequestS _ _ _ hm _).mono ?_; rintro e w1 ⟨⟨m, rfl, hmm⟩, rfl⟩)
    · go_ret
      exact ⟨rfl, Bw.refl _⟩
    · have hn : n ≤ 1048576 := by omega
      clear hmm
      refine (c_toRequestS _ _ _ ts _ hn h).mono ?_
      rintro e w1 ⟨⟨A1, c1, rfl, row1⟩, hb1⟩
      have rd1 := row1.rd (fun _ => rfl)
      go_wp2_with fail
      refine (c_sAddRequest _ _ _ ts base number clock delay row1.caps.1 _ hm rd1).mono ?_
      rw [HR.out, HB.out]
      rintro e w2 ⟨⟨Aw, cw, rfl, roww⟩, hb2⟩
      have rdw := roww.rd (fun _ => rfl)
      have B2 := hb1.trans hb2
      go_wp2_with fail
      refine (c_toRequestS _ _ _ ts _ hn (h.keep B2)).mono ?_
      rintro e w3 ⟨⟨Ax, cx, rfl, rowx⟩, hb3⟩
      have rdx := rowx.rd (fun _ => rfl)
      have ltx := rowx.lt
      go_wp2_with fail
      refine (c_iAddRequest _ _ _ ts base number clock delay _ hm rdx).mono ?_
      rw [HR.out, HB.out]
      rintro e w4 ⟨⟨Ag, cg, rfl, rowg⟩, hb4⟩
      have rdg := rowg.rd (fun _ => rfl)
      have ltg := rowg.lt
      have B24 := hb3.trans hb4
      go_wp2_with fail
      refine (c_eqRequestS _ _ _ _ _ _ _ hL rdg (rdw.keep B24)).mono ?_
      rintro e w5 ⟨rfl, hb5⟩
      go_wp2_with fail
      refine (c_toRequestS _ _ _ ts _ hn (h.keep ((B2.trans B24).trans hb5))).mono ?_
      rintro e w6 ⟨⟨A6, c6, rfl, row6⟩, hb6⟩
      have rd6 := row6.rd (fun _ => rfl)
      go_wp2_with fail
      refine (c_eqRequestS _ _ _ _ _ ts _ hm (((rdx.keep hb4).keep hb5).keep hb6) rd6).mono ?_
      rintro e w7 ⟨rfl, hb7⟩
      have B47 := (hb5.trans hb6).trans hb7
      go_wp2_with fail
      refine (c_markRequestS _ _ _ ts 1 _ _ hn (by omega) (by omega) ((rowx.keep hb4).keep B47)).mono ?_
      rintro e w8 ⟨rfl, rowx8, hg8⟩
      have B28 : Bw w2 w8 := Bw.ofRow (B24.trans B47) hg8 (fun x hx => (ltx x hx).1)
      have rowg8 := (rowg.keep B47).grown hg8 (fun x hx he => by
        cases Ax with
        | none => simp [Value.ownBlock] at he
        | some y =>
          have h1 := (ltx y rfl).2
          have h2 := (ltg x hx).1
          simp only [Value.ownBlock, Option.some.injEq] at he
          omega)
      have rdg8 := rowg8.rd (fun _ => rfl)
      go_wp2_with fail
      refine (c_eqRequestS _ _ _ _ _ _ _ hL rdg8 (rdw.keep B28)).mono ?_
      rintro e w9 ⟨rfl, hb9⟩
      go_wp2_with fail
      refine (c_markRequestS _ _ _ _ 1 _ _ hL2 (by omega) (by omega) (rowg8.keep hb9)).mono ?_
      rintro e w10 ⟨rfl, rowg10, hg10⟩
      have B210 : Bw w2 w10 := Bw.ofRow (B28.trans hb9) hg10 (fun x hx => by have h1 := (ltg x hx).1; have h2 := hb3.size; omega)
      have rdg10 := rowg10.rd (fun _ => rfl)
      go_wp2_with fail
      refine (c_heldRequestS _ _ _ 1 _ hL2 (by omega) (by omega) rdg10).mono ?_
      rintro e _ ⟨rfl, rfl⟩
      go_wp2_with fail
      refine (c_toRequestS _ _ _ ts _ hn (h.keep (B2.trans B210))).mono ?_
      rintro e w11 ⟨⟨A11, c11, rfl, row11⟩, hb11⟩
      have rd11 := row11.rd (fun _ => rfl)
      go_wp2_with fail
      refine (c_iAddRequest _ _ _ ts base number clock delay _ hm rd11).mono ?_
      rw [HR.out, HB.out]
      rintro e w12 ⟨⟨Ah, ch, rfl, rowh⟩, hb12⟩
      have rdh := rowh.rd (fun _ => rfl)
      have B1012 := hb11.trans hb12
      go_wp2_with fail
      refine (c_eqRequestS _ _ _ _ _ _ _ hL rdh (rdw.keep (B210.trans B1012))).mono ?_
      rintro e w13 ⟨rfl, hb13⟩
      go_wp2_with fail
      refine (c_heldRequestS _ _ _ 1 _ hL2 (by omega) (by omega) (rdg10.keep (B1012.trans hb13))).mono ?_
      rintro e _ ⟨rfl, rfl⟩
      go_wp2_with fail
      go_ret
      exact ⟨rfl, ((B2.trans B210).trans B1012).trans hb13⟩
  · exfalso; omega
end Go.Proofs.Ytjhglleiieajaaa
