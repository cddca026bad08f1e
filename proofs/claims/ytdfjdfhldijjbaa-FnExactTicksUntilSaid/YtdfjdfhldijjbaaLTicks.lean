
/- The law FnExactTicksUntil: the walk. -/
import Derived.Test.YtdfjdfhldijjbaaK9
namespace Go.Proofs.Ytdfjdfhldijjbaa
open Go.RowKit
theorem w_TicksUntil (A : Option Addr) (n c : Nat) (ts : List Timer) (id now : Int) (w : World) (hm : n ≤ 9223372036854775807) (h : Rd w A n 3 (ts.map Timer.cells)) :
    Calls Try.prog 5 #[.slice A n c, .int .i64 id, .int .i64 now] w fun e w' => e = .returned (.bool true) ∧ Bw w w' := by
  go_enter Try.func5, Try.ntmps5
  go_wp2_with (go_at_call 18; refine (c_szTimerS _ _ _ hm _).mono ?_; rintro e w1 ⟨⟨m, rfl, hmm⟩, rfl⟩)
  · go_ret
    exact ⟨rfl, Bw.refl _⟩
  · have hn : n ≤ 1048576 := by omega
    clear hmm
    refine (c_toTimerS _ _ _ ts _ hn h).mono ?_
    rintro e w1 ⟨⟨A1, c1, rfl, row1⟩, hb1⟩
    have rd1 := row1.rd (fun _ => rfl)
    go_wp2_with fail
    refine (c_sTicksUntil _ _ _ ts _ _ _ hm rd1).mono ?_
    rintro e w2 ⟨rfl, hb2⟩
    have h2 := (h.keep hb1).keep hb2
    go_wp2_with fail
    refine (c_toTimerS _ _ _ ts _ hn h2).mono ?_
    rintro e w3 ⟨⟨A3, c3, rfl, row3⟩, hb3⟩
    have rd3 := row3.rd (fun _ => rfl)
    go_wp2_with fail
    refine (c_iTicksUntil _ _ _ ts _ _ _ hm rd3).mono ?_
    rintro e w4 ⟨rfl, hb4⟩
    have h4 := (h2.keep hb3).keep hb4
    go_wp2_with fail
    refine (c_toTimerS _ _ _ ts _ hn h4).mono ?_
    rintro e w5 ⟨⟨A5, c5, rfl, row5⟩, hb5⟩
    have rd5 := row5.rd (fun _ => rfl)
    have rd35 := (rd3.keep hb4).keep hb5
    go_wp2_with fail
    refine (c_eqTimerS _ _ _ _ _ ts _ hm rd35 rd5).mono ?_
    rintro e w6 ⟨rfl, hb6⟩
    go_wp2_with fail
    go_ret
    exact ⟨rfl, ((((hb1.trans hb2).trans hb3).trans hb4).trans hb5).trans hb6⟩
end Go.Proofs.Ytdfjdfhldijjbaa
