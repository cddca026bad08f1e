
/- The drawn arguments of the timers' laws: a timer beside them. -/
import Derived.Test.YtjejfkndiecmaaaCU4
namespace Go.Proofs.Ytjejfkndiecmaaa
open Go.RowKit
section
variable (A : Option Addr) (n c : Nat)
set_option maxRecDepth 100000 in
theorem c_DrawTicksUntil (hn : n ≤ 1000000) (w : World) (h : Code8 w A n) :
    Calls Try.prog 18 #[.slice A n c] w fun e w' => (∃ A' k d, ∃ (ts : List Timer) (x y : Int), e = .returned (.tuple #[.slice A' k d, .int .i64 x, .int .i64 y]) ∧ k ≤ 12 ∧ Row w' w.heap.size 26 3 Timer.cells A' k d ts) ∧ Bw w w' := by
  go_enter Try.func18, Try.ntmps18
  go_wp2_with fail
  refine (c_timers _ A n c 0 (by omega) hn _ (CurE.new w A n c _ h)).mono ?_
  rintro e w1 ⟨⟨A', k, d, ts, rfl, hk, row⟩, h1, g1⟩
  have row := row.mono (lo' := w.heap.size + 1) (by simp)
  have rd1 := row.rd (fun _ => rfl)
  have l1 := row.lt
  go_wp2_with fail
  refine (c_timerId _ A n c _ A' k d ts (by omega) (by omega) hn _ h1 rd1 (fun x hx => by have := (l1 x hx).1; omega)).mono ?_
  rintro e w2 ⟨⟨x, rfl⟩, h2, g2⟩
  go_wp2_with fail
  refine (c_tick8 _ A n c _ (by omega) hn _ h2).mono ?_
  rintro e w3 ⟨⟨y, rfl⟩, h3, g3⟩
  go_wp2
  go_ret3
  have g23 := g2.trans g3
  exact ⟨⟨A', k, d, ts, x, y, rfl, hk, (row.grown g23 (fun x hx he => by have := (l1 x hx).1; simp only [Option.some.injEq] at he; omega)).mono (by omega)⟩, (((Bw.refl w).alloc _).cur g1 (by simp)).cur g23 (by simp)⟩
set_option maxRecDepth 100000 in
theorem c_DrawSetTimer (hn : n ≤ 1000000) (w : World) (h : Code8 w A n) :
    Calls Try.prog 6 #[.slice A n c] w fun e w' => (∃ A' k d, ∃ (ts : List Timer) (i u p : Int), e = .returned (.tuple #[.slice A' k d, .agg #[.int .i64 i, .int .i64 u, .int .i64 p]]) ∧ k ≤ 12 ∧ Row w' w.heap.size 26 3 Timer.cells A' k d ts) ∧ Bw w w' := by
  have hA := h.lt
  go_enter Try.func6, Try.ntmps6
  go_wp2_with fail
  have h0 := CurE.new _ A n c 57 (h.keep (by (repeat (first | with_reducible assumption | exact Bw.refl _ | (with_reducible refine Bw.setCell ?_ (by simp) _) | (with_reducible refine Bw.alloc ?_ _) | (with_reducible refine Bw.drew ?_) | (with_reducible refine Bw.drewN ?_ _))) : Bw w (w.alloc (.cells #[.int .i64 0, .int .i64 0, .int .i64 0] 26))))
  simp only [World.size_alloc] at h0
  refine (c_timers _ A n c 0 (by omega) hn _ h0).mono ?_
  rintro e w1 ⟨⟨A', k, d, ts, rfl, hk, row⟩, h1, g1⟩
  have R1 := ((Box.mk' w _ _).keep ((Bw.refl _).alloc _)).gcur g1 (by simp)
  have row := row.mono (lo' := w.heap.size + 2) (by simp)
  have rd1 := row.rd (fun _ => rfl)
  have l1 := row.lt
  have hA1 : ∀ x, A = some x → 0 < n → x.block < w.heap.size := hA
  have bw1 : Bw w w1 := (by (repeat (first | with_reducible assumption | exact Bw.refl _ | (with_reducible refine Bw.setCell ?_ (by simp) _) | (with_reducible refine Bw.alloc ?_ _) | (with_reducible refine Bw.drew ?_) | (with_reducible refine Bw.drewN ?_ _))) : Bw w ((w.alloc (.cells #[.int .i64 0, .int .i64 0, .int .i64 0] 26)).alloc (.cells #[.slice A n c, .int .i64 0, .int .u64 0] 57))).cur g1 (by simp)
  by_cases hk0 : 0 < k
  · go_wp2_with fail
    refine (c_oneE _ A n c _ 2 (by omega) (by omega) (by omega) hn _ h1).mono ?_
    rintro e w2 ⟨⟨x2, rfl⟩, h2, g2⟩
    cases x2
    ·   skip
        (go_wp2_with fail)
        refine (c_pickE _ A n c _ 20 (by omega) (by omega) (by omega) hn _ h2).mono ?_
        rintro e w3 ⟨⟨x3, rfl, l3⟩, h3, g3⟩
        skip
        go_wp2_with fail
        refine (c_timer _ A n c _ _ (by omega) hn _ h3).mono ?_
        rintro e w4 ⟨⟨i, u, p, rfl⟩, h4, g4⟩
        have g24 := (g2.trans g3).trans g4
        have R4 := R1.gcur g24 (by simp)
        have ⟨r0, r1, r2⟩ := R4.c3
        have rf := R4.fz
        go_wp2
        have row4 := row.grown g24 (fun x hx he => by have := (l1 x hx).1; simp only [Option.some.injEq] at he; omega)
        have bw4 := bw1.cur g24 (by simp)
        refine bodyPost_ret (v := .tuple #[.slice A' k d, .agg #[.int .i64 i, .int .i64 u, .int .i64 p]]) (by simp [results, Try.results6, go_sem, r0, r1, r2]) rfl ⟨⟨_, _, _, ts, i, u, p, rfl, by omega, ?_⟩, ((bw4.setCell (by simp) _).setCell (by simp) _).setCell (by simp) _⟩
        exact (((row4.grown (cu_setCell _ _ _) (fun x hx he => by have := (l1 x hx).1; simp at he; omega)).grown (cu_setCell _ _ _) (fun x hx he => by have := (l1 x hx).1; simp at he; omega)).grown (cu_setCell _ _ _) (fun x hx he => by have := (l1 x hx).1; simp at he; omega)).mono (by omega)
    ·   skip
        (go_wp2_with fail)
        refine (c_pickE _ A n c _ k (by omega) (by omega) (by omega) hn _ h2).mono ?_
        rintro e w3 ⟨⟨x3, rfl, l3⟩, h3, g3⟩
        (have hc := ((rd1.grown (g2.trans g3) (fun x hx he => by have := (l1 x hx).1; simp only [Option.some.injEq] at he; omega)).timer hk0); obtain ⟨q, off, rfl, hq, hc⟩ := hc; have ⟨t0, t1, t2⟩ := hc x3 (by omega); clear hc)
        go_wp2_with fail
        refine (c_timer _ A n c _ _ (by omega) hn _ h3).mono ?_
        rintro e w4 ⟨⟨i, u, p, rfl⟩, h4, g4⟩
        have g24 := (g2.trans g3).trans g4
        have R4 := R1.gcur g24 (by simp)
        have ⟨r0, r1, r2⟩ := R4.c3
        have rf := R4.fz
        go_wp2
        have row4 := row.grown g24 (fun x hx he => by have := (l1 x hx).1; simp only [Option.some.injEq] at he; omega)
        have bw4 := bw1.cur g24 (by simp)
        refine bodyPost_ret (v := .tuple #[.slice (some ⟨q, off, none⟩) k d, .agg #[.int .i64 i, .int .i64 u, .int .i64 p]]) (by simp [results, Try.results6, go_sem, r0, r1, r2]) rfl ⟨⟨_, _, _, ts, i, u, p, rfl, by omega, ?_⟩, ((bw4.setCell (by simp) _).setCell (by simp) _).setCell (by simp) _⟩
        exact (((row4.grown (cu_setCell _ _ _) (fun x hx he => by have := (l1 x hx).1; simp at he; omega)).grown (cu_setCell _ _ _) (fun x hx he => by have := (l1 x hx).1; simp at he; omega)).grown (cu_setCell _ _ _) (fun x hx he => by have := (l1 x hx).1; simp at he; omega)).mono (by omega)
  · obtain rfl : k = 0 := by omega
    have g2 := World.grownBy.refl w1 (some (w.heap.size + 1))
    ·   skip
        (go_wp2_with fail)
        refine (c_pickE _ A n c _ 20 (by omega) (by omega) (by omega) hn _ h1).mono ?_
        rintro e w3 ⟨⟨x3, rfl, l3⟩, h3, g3⟩
        skip
        go_wp2_with fail
        refine (c_timer _ A n c _ _ (by omega) hn _ h3).mono ?_
        rintro e w4 ⟨⟨i, u, p, rfl⟩, h4, g4⟩
        have g24 := (g2.trans g3).trans g4
        have R4 := R1.gcur g24 (by simp)
        have ⟨r0, r1, r2⟩ := R4.c3
        have rf := R4.fz
        go_wp2
        have row4 := row.grown g24 (fun x hx he => by have := (l1 x hx).1; simp only [Option.some.injEq] at he; omega)
        have bw4 := bw1.cur g24 (by simp)
        refine bodyPost_ret (v := .tuple #[.slice A' 0 d, .agg #[.int .i64 i, .int .i64 u, .int .i64 p]]) (by simp [results, Try.results6, go_sem, r0, r1, r2]) rfl ⟨⟨_, _, _, ts, i, u, p, rfl, by omega, ?_⟩, ((bw4.setCell (by simp) _).setCell (by simp) _).setCell (by simp) _⟩
        exact (((row4.grown (cu_setCell _ _ _) (fun x hx he => by have := (l1 x hx).1; simp at he; omega)).grown (cu_setCell _ _ _) (fun x hx he => by have := (l1 x hx).1; simp at he; omega)).grown (cu_setCell _ _ _) (fun x hx he => by have := (l1 x hx).1; simp at he; omega)).mono (by omega)
set_option maxRecDepth 100000 in
set_option maxHeartbeats 1000000 in
theorem c_DrawBackOff (hn : n ≤ 1000000) (w : World) (h : Code8 w A n) :
    Calls Try.prog 15 #[.slice A n c] w fun e w' => (∃ (i u p x : Int), e = .returned (.tuple #[.agg #[.int .i64 i, .int .i64 u, .int .i64 p], .int .i64 x])) ∧ Bw w w' := by
  have hA := h.lt
  go_enter Try.func15, Try.ntmps15
  go_wp2_with fail
  have h0 := CurE.new _ A n c 57 (h.keep (by (repeat (first | with_reducible assumption | exact Bw.refl _ | (with_reducible refine Bw.setCell ?_ (by simp) _) | (with_reducible refine Bw.alloc ?_ _) | (with_reducible refine Bw.drew ?_) | (with_reducible refine Bw.drewN ?_ _))) : Bw w (w.alloc (.cells #[.int .i64 0, .int .i64 0, .int .i64 0] 26))))
  simp only [World.size_alloc] at h0
  refine (c_timer _ A n c 0 _ (by omega) hn _ h0).mono ?_
  rintro e w1 ⟨⟨i, u, p, rfl⟩, h1, g1⟩
  have R1 := ((Box.mk' w _ _).keep ((Bw.refl _).alloc _)).gcur g1 (by simp)
  go_wp2_with fail
  have bw1 : Bw w w1 := (by (repeat (first | with_reducible assumption | exact Bw.refl _ | (with_reducible refine Bw.setCell ?_ (by simp) _) | (with_reducible refine Bw.alloc ?_ _) | (with_reducible refine Bw.drew ?_) | (with_reducible refine Bw.drewN ?_ _))) : Bw w ((w.alloc (.cells #[.int .i64 0, .int .i64 0, .int .i64 0] 26)).alloc (.cells #[.slice A n c, .int .i64 0, .int .u64 0] 57))).cur g1 (by simp)
  have hT0 := Box.mk' w1 #[.int .i64 i, .int .i64 u, .int .i64 p] 26
  have hI0 : IntsAt ((w1.alloc (.cells #[.int .i64 i, .int .i64 u, .int .i64 p] 26)).alloc (.cells #[.int .i64 1, .int .i64 2, .int .i64 7, .int .i64 16, .int .i64 6000, .int .i64 10000, .int .i64 0, .int .i64 10001] 3)) (some ⟨w1.heap.size + 1, 0, none⟩) 8 := by
    have := IntsAt.lit (w1.alloc (.cells #[.int .i64 i, .int .i64 u, .int .i64 p] 26)) #[.int .i64 1, .int .i64 2, .int .i64 7, .int .i64 16, .int .i64 6000, .int .i64 10000, .int .i64 0, .int .i64 10001] 3 (k := 8) (by simp) rfl
    simpa using this
  go_region_with (first | (go_at_call 36; refine (c_pickE _ A n c _ 24 (by omega) (by omega) (by omega) hn _ (h1.keep (by (repeat (first | with_reducible assumption | exact Bw.refl _ | (with_reducible refine Bw.setCell ?_ (by simp) _) | (with_reducible refine Bw.alloc ?_ _) | (with_reducible refine Bw.drew ?_) | (with_reducible refine Bw.drewN ?_ _)))))).mono ?_; rintro e w2 ⟨⟨x2, rfl, l2⟩, h2, g2⟩; have qd : Int.tdiv (x2 : Int) 11 = (x2 : Int) / 11 := rfl; have q0 : (0 : Int) ≤ (x2 : Int) / 11 := (by omega); have q1 : (x2 : Int) / 11 ≤ 2 := (by omega); have qw := IntWalk.i64_in ((x2 : Int) / 11) (by omega); have qw2 := IntWalk.i64_in (6 + (x2 : Int) / 11) (by omega); have T2 := (hT0.keep (by (repeat (first | with_reducible assumption | exact Bw.refl _ | (with_reducible refine Bw.setCell ?_ (by simp) _) | (with_reducible refine Bw.alloc ?_ _) | (with_reducible refine Bw.drew ?_) | (with_reducible refine Bw.drewN ?_ _))))).gcur g2 (by have := h1.lt; omega); have hI := IntsAt.grown (hI0.keep (Bw.drew (Bw.refl _))) g2 (fun x hx => by have := h1.lt; simp only [Option.some.injEq] at hx; subst hx; dsimp only; omega); have ⟨t0, t1, t2⟩ := T2.c3; have tl := T2.lt) | (go_at_call 36; refine (c_pickE _ A n c _ 24 (by omega) (by omega) (by omega) hn _ (h1.keep (by (repeat (first | with_reducible assumption | exact Bw.refl _ | (with_reducible refine Bw.setCell ?_ (by simp) _) | (with_reducible refine Bw.alloc ?_ _) | (with_reducible refine Bw.drew ?_) | (with_reducible refine Bw.drewN ?_ _)))))).mono ?_; rintro e w2 ⟨⟨x2, rfl, l2⟩, h2, g2⟩; have qd : Int.tdiv (x2 : Int) 11 = (x2 : Int) / 11 := rfl; have q0 : (0 : Int) ≤ (x2 : Int) / 11 := (by omega); have q1 : (x2 : Int) / 11 ≤ 2 := (by omega); have qw := IntWalk.i64_in ((x2 : Int) / 11) (by omega); have qw2 := IntWalk.i64_in (6 + (x2 : Int) / 11) (by omega); have T2 := (hT0.keep (by (repeat (first | with_reducible assumption | exact Bw.refl _ | (with_reducible refine Bw.setCell ?_ (by simp) _) | (with_reducible refine Bw.alloc ?_ _) | (with_reducible refine Bw.drew ?_) | (with_reducible refine Bw.drewN ?_ _))))).gcur g2 (by have := h1.lt; omega); have ⟨t0, t1, t2⟩ := T2.c3; have tl := T2.lt) | (go_at_call 48; refine (c_amongE _ A n c _ _ _ _ (by omega) (by omega) (by omega) hn _ h2 (hI.take (by omega)) (fun x hx => by have := h1.lt; simp only [Option.some.injEq] at hx; subst hx; dsimp only; omega)).mono ?_; rintro e w3 ⟨⟨x3, rfl⟩, h3, g3⟩; have T3 := T2.gcur g3 (by have := h1.lt; omega); have ⟨u0, u1, u2⟩ := T3.c3; have ul := T3.lt; have R3 := ((R1.keep (by (repeat (first | with_reducible assumption | exact Bw.refl _ | (with_reducible refine Bw.setCell ?_ (by simp) _) | (with_reducible refine Bw.alloc ?_ _) | (with_reducible refine Bw.drew ?_) | (with_reducible refine Bw.drewN ?_ _))))).gcur g2 (by simp)).gcur g3 (by simp); have ⟨r0, r1, r2⟩ := R3.c3; have rf := R3.fz) | (go_at_call 48; refine (c_amongL _ A n c _ _ _ _ _ (by omega) (by omega) (by simp; omega) rfl (by omega) hn _ h2 _ rfl).mono ?_; rintro e w3 ⟨⟨x3, rfl⟩, h3, g3⟩; have T3 := T2.gcur g3 (by have := h1.lt; omega); have ⟨u0, u1, u2⟩ := T3.c3; have ul := T3.lt; have R3 := ((R1.keep (by (repeat (first | with_reducible assumption | exact Bw.refl _ | (with_reducible refine Bw.setCell ?_ (by simp) _) | (with_reducible refine Bw.alloc ?_ _) | (with_reducible refine Bw.drew ?_) | (with_reducible refine Bw.drewN ?_ _))))).gcur g2 (by simp)).gcur g3 (by simp); have ⟨r0, r1, r2⟩ := R3.c3; have rf := R3.fz))
  all_goals
    go_wp2
    have bw3 : Bw w w3 := ((bw1.trans (by (repeat (first | with_reducible assumption | exact Bw.refl _ | (with_reducible refine Bw.setCell ?_ (by simp) _) | (with_reducible refine Bw.alloc ?_ _) | (with_reducible refine Bw.drew ?_) | (with_reducible refine Bw.drewN ?_ _))))).cur g2 (by simp)).cur g3 (by simp)
    refine bodyPost_ret (v := .tuple #[.agg #[.int .i64 i, .int .i64 u, .int .i64 p], .int .i64 x3]) (by simp [results, Try.results15, go_sem, r0, r1, r2]) rfl ⟨⟨i, u, p, x3, rfl⟩, ((bw3.setCell (by simp) _).setCell (by simp) _).setCell (by simp) _⟩
end
end Go.Proofs.Ytjejfkndiecmaaa
