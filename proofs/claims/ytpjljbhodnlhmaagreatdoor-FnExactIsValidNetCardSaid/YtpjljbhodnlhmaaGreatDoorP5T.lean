
/- A law's own helpers at trees. -/
import Derived.Test.YtpjljbhodnlhmaaGreatDoorI2
import Derived.Test.YtpjljbhodnlhmaaGreatDoorK1
namespace Go.Proofs.YtpjljbhodnlhmaaGreatDoor
open Go.RowKit
theorem setCell_grown (W : World) (b : Nat) (v : Value) : W.grownBy (W.setCell ⟨b, 0, none⟩ v) (some b) :=
  ⟨rfl, rfl, rfl, (by simp), fun k _ hk => Below.heap_setCell _ _ _ k (fun e => hk (by rw [e]))⟩
theorem c_szTree (A : Option Addr) (n c : Nat) (hm : n ≤ 9223372036854775807) (w : World) : Calls Tryz.prog 5 #[.agg #[.slice A n c], .int .i64 1048576] w fun e w' => (∃ m : Int, e = .returned (.int .i64 m) ∧ (m < 0 ∨ n ≤ 1048576)) ∧ Bw w w' := by
  go_enter Tryz.func5, Tryz.ntmps5
  go_wp2_with (go_at_call 18; refine (c_szIntS _ _ _ hm _).mono ?_; rintro e w1 ⟨⟨m, rfl, hmm⟩, rfl⟩)
  all_goals
    go_ret
    exact ⟨⟨_, rfl, by omega⟩, by (repeat (first | with_reducible assumption | exact Bw.refl _ | (with_reducible refine Bw.setCell ?_ (by simp) _) | (with_reducible refine Bw.alloc ?_ _) | (with_reducible refine Bw.drew ?_) | (with_reducible refine Bw.drewN ?_ _)))⟩
theorem c_toTree (A : Option Addr) (n c : Nat) (ts : List Int) (w : World) (hm : n ≤ 1048576) (h : Rd w A n 1 (ts.map icell)) :
    Calls Tryz.prog 7 #[.agg #[.slice A n c]] w fun e w' => (∃ A' c', e = .returned (.agg #[.slice A' n c']) ∧ Row w' w.heap.size 3 1 icell A' n c' ts) ∧ Bw w w' := by
  go_enter Tryz.func7, Tryz.ntmps7
  go_wp2_with (go_at_call 22; refine (c_toIntS _ _ _ ts _ hm (h.keep (Bw.alloc (Bw.alloc (Bw.alloc (Bw.refl _) _) _) _))).mono ?_; rintro e w1 ⟨⟨A1, c1, rfl, row1⟩, hb1⟩; have hr1 := hb1.rule; have hf1 := hb1.frz; have hs1 : w.heap.size + 3 ≤ w1.heap.size := (by have := hb1.size; simpa using this); have b1 := hb1.cellv (p := ⟨w.heap.size + 1, 0, none⟩) (v := .slice none 0 0) (by go_simp); have b2 := hb1.cellv (p := ⟨w.heap.size + 2, 0, none⟩) (v := .slice none 0 0) (by go_simp))
  have g1 := setCell_grown w1 (w.heap.size + 1 + 1) (.slice A1 n c1)
  have g2 := setCell_grown (w1.setCell ⟨w.heap.size + 1 + 1, 0, none⟩ (.slice A1 n c1)) (w.heap.size + 1) (.slice A1 n c1)
  have lt1 := row1.lt
  have r1 := row1.grown g1 (fun x hx he => by have := (lt1 x hx).1; simp at he this; omega)
  have r2 := r1.grown g2 (fun x hx he => by have := (lt1 x hx).1; simp at he this; omega)
  exact bodyPost_ret (v := .agg #[.slice A1 n c1]) (by simp [results, Tryz.results7, go_sem, b1, b2]) rfl ⟨⟨_, _, rfl, r2.mono (by simp; omega)⟩, by
    have hb : Bw w w1 := Bw.trans (by (repeat (first | with_reducible assumption | exact Bw.refl _ | (with_reducible refine Bw.setCell ?_ (by simp) _) | (with_reducible refine Bw.alloc ?_ _) | (with_reducible refine Bw.drew ?_) | (with_reducible refine Bw.drewN ?_ _)))) hb1
    exact Bw.setCell (Bw.setCell hb (by simp; omega) _) (by simp) _⟩
theorem c_eqTree (A A' : Option Addr) (n c c' : Nat) (ts : List Int) (w : World) (hm : n ≤ 9223372036854775807) (h : Rd w A n 1 (ts.map icell)) (h' : Rd w A' n 1 (ts.map icell)) :
    Calls Tryz.prog 10 #[.agg #[.slice A n c], .agg #[.slice A' n c']] w fun e w' => e = .returned (.bool true) ∧ Bw w w' := by
  go_enter Tryz.func10, Tryz.ntmps10
  go_wp2_with (go_at_call 30; refine (c_eqIntS _ _ _ _ _ ts _ hm (h.keep (Bw.alloc (Bw.alloc (Bw.refl _) _) _)) (h'.keep (Bw.alloc (Bw.alloc (Bw.refl _) _) _))).mono ?_; rintro e w1 ⟨rfl, hb1⟩)
  go_ret
  exact ⟨rfl, Bw.trans (Bw.alloc (Bw.alloc (Bw.refl _) _) _) hb1⟩
end Go.Proofs.YtpjljbhodnlhmaaGreatDoor
