
/- The drawn arguments of the trees' laws. -/
import Derived.Test.YthciecmofgoebaaGreatDoorM5
namespace Go.Proofs.YthciecmofgoebaaGreatDoor
open Go.RowKit
section
variable (b : Nat) (A : Option Addr) (n c m : Nat)
set_option maxRecDepth 100000 in
theorem c_nodeIn (A' : Option Addr) (k d : Nat) (hk : k ≤ 9) (hm : m ≤ 800000) (hn : n ≤ 1000000) (w : World) (h : CurE b A n c m w) :
    Calls Tryz.prog 50 #[.pointer (some ⟨b, 0, none⟩), .agg #[.slice A' k d]] w fun e w' => (∃ x : Int, e = .returned (.int .i64 x)) ∧ CurE b A n c (m + 4) w' ∧ w.grownBy w' (some b) := by
  have hlt := h.lt
  have hbx := (Bw.refl w).alloc (.cells #[.slice A' k d] 26)
  have B0 := Box.mk' w #[.slice A' k d] 26
  go_enter Tryz.func50, Tryz.ntmps50
  go_wp2_with fail
  refine (c_oneE b A n c m 16 (by omega) (by omega) (by omega) hn _ (h.keep hbx)).mono ?_
  rintro e w1 ⟨⟨x1, rfl⟩, h1, g1⟩
  have B1 := B0.gcur g1 (by omega)
  have g01 := (hbx.gr (some b)).trans g1
  have t1 := B1.c1
  cases x1
  · go_wp2_with fail
    go_region_law (first | (go_simp; go_at_call 47; first | (have h2x := h2; clear h2x; refine (c_pickA b A n c _ _ (by omega) (by omega) hn _ h2).mono ?_; rintro e w3 ⟨⟨x3, rfl⟩, h3, g3⟩) | (refine (c_pickE b A n c _ 9 (by omega) (by omega) (by omega) hn _ (h1.keep (by (repeat (first | with_reducible assumption | exact Bw.refl _ | (with_reducible refine Bw.setCell ?_ (by simp) _) | (with_reducible refine Bw.alloc ?_ _) | (with_reducible refine Bw.drew ?_) | (with_reducible refine Bw.drewN ?_ _))) : Bw w1 w1.drew))).mono ?_; rintro e w2 ⟨⟨x2, rfl, l2⟩, h2, g2⟩; have t2 := (B1.keep (by (repeat (first | with_reducible assumption | exact Bw.refl _ | (with_reducible refine Bw.setCell ?_ (by simp) _) | (with_reducible refine Bw.alloc ?_ _) | (with_reducible refine Bw.drew ?_) | (with_reducible refine Bw.drewN ?_ _))) : Bw w1 w1.drew)).gcur g2 (by omega) |>.c1; have qd : Int.tdiv (x2 : Int) 8 = (x2 : Int) / 8 := rfl; have q0 : (0 : Int) ≤ (x2 : Int) / 8 := (by omega); have q1 : (x2 : Int) / 8 ≤ 1 := (by omega); have qw := IntWalk.i64_in ((x2 : Int) / 8) (by omega); have qw2 := IntWalk.i64_in ((k : Int) + 1 - (x2 : Int) / 8) (by omega); have qw3 := IntWalk.i64_in ((k : Int) + 1) (by omega))))
    all_goals
      go_wp2
      go_ret
      exact ⟨⟨_, rfl⟩, h3.mono (by omega), (g01.trans ((by (repeat (first | with_reducible assumption | exact Bw.refl _ | (with_reducible refine Bw.setCell ?_ (by simp) _) | (with_reducible refine Bw.alloc ?_ _) | (with_reducible refine Bw.drew ?_) | (with_reducible refine Bw.drewN ?_ _))) : Bw w1 w1.drew).gr _)).trans (g2.trans g3)⟩
  · go_wp2_with fail
    refine (c_amongL b A n c _ _ _ _ _ (by omega) (by omega) (by simp) rfl (by omega) hn _ h1 _ (by simp)).mono ?_
    rintro e w2 ⟨⟨x2, rfl⟩, h2, g2⟩
    go_wp2
    go_ret
    exact ⟨⟨_, rfl⟩, h2.mono (by omega), g01.trans g2⟩
end
section
variable (A : Option Addr) (n c : Nat)
set_option maxRecDepth 100000 in
theorem c_DrawChildrenOf (hn : n ≤ 1000000) (w : World) (h : Code8 w A n) :
    Calls Tryz.prog 32 #[.slice A n c] w fun e w' => (∃ A' k d, ∃ (ts : List Int) (x : Int), e = .returned (.tuple #[.agg #[.slice A' k d], .int .i64 x]) ∧ k ≤ 9 ∧ Row w' w.heap.size 3 1 icell A' k d ts) ∧ Bw w w' := by
  have k0 : Bw w (w.alloc (.cells #[.slice none 0 0] 26)) := (Bw.refl w).alloc _
  have R0 := Box.mk' w #[.slice none 0 0] 26
  have c0 := CurE.new (w.alloc (.cells #[.slice none 0 0] 26)) A n c 52 (h.keep k0)
  have k1 : Bw w ((w.alloc (.cells #[.slice none 0 0] 26)).alloc (.cells #[.slice A n c, .int .i64 0, .int .u64 0] 52)) := k0.alloc _
  simp only [World.size_alloc] at c0
  go_enter Tryz.func32, Tryz.ntmps32
  go_wp2_with fail
  refine (c_anyTree _ A n c 0 (by omega) hn _ c0).mono ?_
  rintro e w1 ⟨⟨A', k, d, ts, rfl, hk, row1⟩, h1, g1⟩
  have R1 := (R0.keep ((Bw.refl _).alloc _)).gcur g1 (by omega)
  have T1 := TrB.mk0 w1 _ 26 row1
  have s1 := g1.size
  simp only [World.size_alloc] at s1 T1
  have R2 := R1.keep ((Bw.refl _).alloc (.cells #[.slice A' k d] 26))
  have h2 := h1.keep ((Bw.refl _).alloc (.cells #[.slice A' k d] 26))
  have b1 := (k1.cur g1 (by omega)).alloc (.cells #[.slice A' k d] 26)
  generalize hq : w1.heap.size = q at *
  go_wp2_with fail
  generalize w1.alloc (.cells #[.slice A' k d] 26) = w2 at *
  have t2 := T1.c0
  go_region_law (first | (go_simp; go_at_call 50; refine (c_nodeIn _ A n c _ A' k d hk (by omega) hn _ (h2.keep (by (repeat (first | with_reducible assumption | exact Bw.refl _ | (with_reducible refine Bw.setCell ?_ (by simp) _) | (with_reducible refine Bw.alloc ?_ _) | (with_reducible refine Bw.drew ?_) | (with_reducible refine Bw.drewN ?_ _))) : Bw w2 w2.drew))).mono ?_; rintro e w3 ⟨⟨x3, rfl⟩, h3, g3⟩; have T3 := (T1.keep (by (repeat (first | with_reducible assumption | exact Bw.refl _ | (with_reducible refine Bw.setCell ?_ (by simp) _) | (with_reducible refine Bw.alloc ?_ _) | (with_reducible refine Bw.drew ?_) | (with_reducible refine Bw.drewN ?_ _))) : Bw w2 w2.drew)).cur g3 (by omega) (by omega); have R3 := (R2.keep (by (repeat (first | with_reducible assumption | exact Bw.refl _ | (with_reducible refine Bw.setCell ?_ (by simp) _) | (with_reducible refine Bw.alloc ?_ _) | (with_reducible refine Bw.drew ?_) | (with_reducible refine Bw.drewN ?_ _))) : Bw w2 w2.drew)).gcur g3 (by omega); have t3 := T3.c0; have r3 := R3.c1; have rf3 := R3.fz 0))
  all_goals
    have b3 := (b1.trans (by (repeat (first | with_reducible assumption | exact Bw.refl _ | (with_reducible refine Bw.setCell ?_ (by simp) _) | (with_reducible refine Bw.alloc ?_ _) | (with_reducible refine Bw.drew ?_) | (with_reducible refine Bw.drewN ?_ _))) : Bw w2 w2.drew)).cur g3 (by omega)
    have hrow := T3.row
    go_wp2
    refine bodyPost_ret (v := .tuple #[.agg #[.slice A' k d], .int .i64 x3]) (by simp [results, Tryz.results32, go_sem, r3]) rfl ⟨?_, b3.setCell (by simp) _⟩
    have hrz := (hrow.grown (cu_setCell w3 ⟨w.heap.size, 0, none⟩ (.slice A' k d)) (fun x hx he => by have := (hrow.lt x hx).1; simp at he; omega)).mono (lo' := w.heap.size) (by omega)
    first
      | exact ⟨A', k, d, ts, x3, rfl, hk, hrz⟩
      | exact ⟨A', k, d, ts, ⟨x3, rfl⟩, hk, hrz⟩
      | exact ⟨A', k, d, ⟨x3, rfl⟩, hk, ts, hrz⟩
      | (simp; exact ⟨hk, ts, hrz⟩)
end
end Go.Proofs.YthciecmofgoebaaGreatDoor
