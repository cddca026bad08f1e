
/- The law FnExactAreRequests: the walk. -/
import Derived.Test.YtjhglleiieajaaaR2
namespace Go.Proofs.Ytjhglleiieajaaa
open Go.RowKit
theorem c_sAreRequests (A : Option Addr) (n c : Nat) (ts : List Request) (base : Int) {r : Bool} (hr : goodR ts base = r) (w : World) (hm : n ≤ 9223372036854775807) (h : Rd w A n 4 (ts.map Request.cells)) :
    Calls Try.prog 15 #[.slice A n c, .int .i64 base] w fun e w' => e = .returned (.bool r) ∧ Bw w w' := by
  go_enter Try.func15, Try.ntmps15
  go_wp2_with (go_at_call 55; refine (c_l12Good _ _ _ _ _ hr _ hm h).mono ?_; rintro e w1 ⟨rfl, hb1⟩)
  go_ret
  exact ⟨rfl, hb1⟩
theorem w_AreRequests (A : Option Addr) (n c : Nat) (ts : List Request) (base : Int) (w : World) (hm : n ≤ 9223372036854775807) (h : Rd w A n 4 (ts.map Request.cells)) :
    Calls Try.prog 3 #[.slice A n c, .int .i64 base] w fun e w' => e = .returned (.bool true) ∧ Bw w w' := by
  generalize hR : goodR ts base = r
  have HR := Lib.hid hR
  clear hR
  go_enter Try.func3, Try.ntmps3
  go_wp2_with (go_at_call 14; refine (c_szRequestS _ _ _ hm _).mono ?_; rintro e w1 ⟨⟨m, rfl, hmm⟩, rfl⟩)
  · go_ret
    exact ⟨rfl, Bw.refl _⟩
  · have hn : n ≤ 1048576 := by omega
    clear hmm
    refine (c_toRequestS _ _ _ ts _ hn h).mono ?_
    rintro e w1 ⟨⟨A1, c1, rfl, row1⟩, hb1⟩
    have rd1 := row1.rd (fun _ => rfl)
    go_wp2_with fail
    refine (c_sAreRequests _ _ _ ts _ HR.out _ hm rd1).mono ?_
    rintro e w2 ⟨rfl, hb2⟩
    have h2 := (h.keep hb1).keep hb2
    go_wp2_with fail
    refine (c_toRequestS _ _ _ ts _ hn h2).mono ?_
    rintro e w3 ⟨⟨A3, c3, rfl, row3⟩, hb3⟩
    have rd3 := row3.rd (fun _ => rfl)
    go_wp2_with fail
    refine (c_AreRequests _ _ _ ts _ HR.out _ hm rd3).mono ?_
    rintro e w4 ⟨rfl, hb4⟩
    have h4 := (h2.keep hb3).keep hb4
    go_wp2_with fail
    refine (c_toRequestS _ _ _ ts _ hn h4).mono ?_
    rintro e w5 ⟨⟨A5, c5, rfl, row5⟩, hb5⟩
    have rd5 := row5.rd (fun _ => rfl)
    have rd35 := (rd3.keep hb4).keep hb5
    go_wp2_with fail
    refine (c_eqRequestS _ _ _ _ _ ts _ hm rd35 rd5).mono ?_
    rintro e w6 ⟨rfl, hb6⟩
    go_wp2_with fail
    go_ret
    exact ⟨rfl, ((((hb1.trans hb2).trans hb3).trans hb4).trans hb5).trans hb6⟩
end Go.Proofs.Ytjhglleiieajaaa
