/- The law FnExactBackOff: the walk. -/
import Derived.Test.YtdfjdfhldijjbaaK5
namespace Go.Proofs.Ytdfjdfhldijjbaa
open Go.RowKit
theorem w_BackOff (i d p most : Int) (w : World) : Calls Try.prog 3 #[.agg #[.int .i64 i, .int .i64 d, .int .i64 p], .int .i64 most] w fun e w' => e = .returned (.bool true) ∧ Bw w w' := by
  go_enter Try.func3, Try.ntmps3
  generalize hR : backOff i d p most = R
  obtain ⟨⟨ri, rd, rp⟩, rb⟩ := R
  have HR := Lib.hid hR
  clear hR
  go_wp2_with (first | (go_at_call 15; refine (x_toTimer _ _ _ _).mono ?_; rintro e w1 ⟨rfl, rfl⟩) | (go_at_call 14; refine (c_sBackOff _ _ _ _ _).mono ?_; rw [HR.out]; rintro e w1 ⟨rfl, hb1⟩; have hr1 := hb1.rule; have hf1 := hb1.frz; have hs1 : w.heap.size < w1.heap.size := (by have := hb1.size; simp at this; omega); unfold Timer.out))
  refine (c_iBackOff _ _ _ _ _).mono ?_
  rw [HR.out]
  rintro e w2 ⟨rfl, hb2⟩
  have hr2 := hb2.rule
  have hf2 := hb2.frz
  have hs2 : w1.heap.size < w2.heap.size := by have := hb2.size; simp at this; omega
  unfold Timer.out
  go_wp2_with (go_at_call 17; refine (x_eqTimer _ _ _ _).mono ?_; rintro e w3 ⟨rfl, rfl⟩)
  go_ret
  refine ⟨rfl, ?_⟩
  have hb : Bw w w1 := Bw.trans (by (repeat (first | with_reducible assumption | exact Bw.refl _ | (with_reducible refine Bw.setCell ?_ (by simp) _) | (with_reducible refine Bw.alloc ?_ _) | (with_reducible refine Bw.drew ?_) | (with_reducible refine Bw.drewN ?_ _)))) hb1
  have hc : Bw w w2 := Bw.trans (by (repeat (first | with_reducible assumption | exact Bw.refl _ | (with_reducible refine Bw.setCell ?_ (by simp) _) | (with_reducible refine Bw.alloc ?_ _) | (with_reducible refine Bw.drew ?_) | (with_reducible refine Bw.drewN ?_ _)))) hb2
  (repeat (first | with_reducible assumption | exact Bw.refl _ | (with_reducible refine Bw.setCell ?_ (by simp) _) | (with_reducible refine Bw.alloc ?_ _) | (with_reducible refine Bw.drew ?_) | (with_reducible refine Bw.drewN ?_ _)))
end Go.Proofs.Ytdfjdfhldijjbaa
