
/- The drawn arguments of the timers' laws. -/
import Derived.Test.YtjejfkndiecmaaaCU3
namespace Go.Proofs.Ytjejfkndiecmaaa
open Go.RowKit
section
variable (b : Nat) (A : Option Addr) (n c m : Nat)
set_option maxRecDepth 100000 in
theorem c_timerId (A' : Option Addr) (k d : Nat) (ts : List Timer) (hk : k ≤ 100) (hm : m ≤ 800000) (hn : n ≤ 1000000) (w : World) (h : CurE b A n c m w) (hr : Rd w A' k 3 (ts.map Timer.cells)) (hne : ∀ x, A' = some x → x.block ≠ b) :
    Calls Try.prog 53 #[.pointer (some ⟨b, 0, none⟩), .slice A' k d] w fun e w' => (∃ x : Int, e = .returned (.int .i64 x)) ∧ CurE b A n c (m + 2) w' ∧ w.grownBy w' (some b) := by
  cases q0 : ((k : Int) == 0)
  · have hk0 : 0 < k := by simp at q0; omega
    go_enter Try.func53, Try.ntmps53
    go_wp2_with fail
    refine (c_oneE b A n c _ 8 (by omega) (by omega) (by omega) hn _ h).mono ?_
    rintro e w1 ⟨⟨x1, rfl⟩, h1, g1⟩
    cases x1
    · go_wp2_with fail
      refine (c_pickE b A n c _ k (by omega) (by omega) (by omega) hn _ h1).mono ?_
      rintro e w2 ⟨⟨x2, rfl, l2⟩, h2, g2⟩
      have g12 := g1.trans g2
      obtain ⟨q, off, rfl, hq, hc⟩ := (hr.grown g12 (fun x hx he => hne x hx (Option.some.inj he).symm)).timer hk0
      have ⟨t0, t1, t2⟩ := hc x2 (by omega)
      clear hc
      go_wp2
      go_ret
      exact ⟨⟨_, rfl⟩, h2, g12⟩
    · go_wp2_with fail
      refine (c_amongL b A n c _ _ _ _ _ (by omega) (by omega) (by simp) rfl (by omega) hn _ h1 _ (by simp)).mono ?_
      rintro e w2 ⟨⟨x2, rfl⟩, h2, g2⟩
      go_wp2
      go_ret
      exact ⟨⟨_, rfl⟩, h2, g1.trans g2⟩
  · go_enter Try.func53, Try.ntmps53
    go_wp2_with fail
    refine (c_amongL b A n c _ _ _ _ _ (by omega) (by omega) (by simp) rfl (by omega) hn _ h _ (by simp)).mono ?_
    rintro e w2 ⟨⟨x2, rfl⟩, h2, g2⟩
    go_wp2
    go_ret
    exact ⟨⟨_, rfl⟩, h2.mono (by omega), g2⟩
set_option maxRecDepth 100000 in
theorem c_tick8 (hm : m ≤ 800000) (hn : n ≤ 1000000) (w : World) (h : CurE b A n c m w) :
    Calls Try.prog 54 #[.pointer (some ⟨b, 0, none⟩)] w fun e w' => (∃ x : Int, e = .returned (.int .i64 x)) ∧ CurE b A n c (m + 2) w' ∧ w.grownBy w' (some b) := by
  have hlt := h.lt
  go_enter Try.func54, Try.ntmps54
  go_wp2_with fail
  refine (c_pickE b A n c _ 24 (by omega) (by omega) (by omega) hn _ (h.keep (by (repeat (first | with_reducible assumption | exact Bw.refl _ | (with_reducible refine Bw.setCell ?_ (by simp) _) | (with_reducible refine Bw.alloc ?_ _) | (with_reducible refine Bw.drew ?_) | (with_reducible refine Bw.drewN ?_ _)))))).mono ?_
  rintro e w1 ⟨⟨x1, rfl, l1⟩, h1, g1⟩
  have hI := (IntsAt.lit w _ _ (k := 10) (by simp) rfl).grown g1 (fun x hx => by simp only [Option.some.injEq] at hx; subst hx; dsimp only; omega)
  go_wp2_with fail
  refine (c_amongE b A n c _ _ _ _ (by omega) (by omega) (by omega) hn _ h1 (hI.take (by omega)) (fun x hx => by simp only [Option.some.injEq] at hx; subst hx; dsimp only; omega)).mono ?_
  rintro e w2 ⟨⟨x2, rfl⟩, h2, g2⟩
  go_wp2
  go_ret
  exact ⟨⟨_, rfl⟩, h2, ((((Bw.refl w).alloc _).gr _).trans g1).trans g2⟩
end
section
variable (A : Option Addr) (n c : Nat)
theorem c_DrawIsValidTimers (hn : n ≤ 1000000) (w : World) (h : Code8 w A n) :
    Calls Try.prog 62 #[.slice A n c] w fun e w' => (∃ A' k d, ∃ ts : List Timer, e = .returned (.slice A' k d) ∧ k ≤ 12 ∧ Row w' w.heap.size 26 3 Timer.cells A' k d ts) ∧ Bw w w' := by
  go_enter Try.func62, Try.ntmps62
  go_wp2_with fail
  refine (c_timers _ A n c 0 (by omega) hn _ (CurE.new w A n c _ h)).mono ?_
  rintro e w1 ⟨⟨A', k, d, ts, rfl, hk, row⟩, h1, g1⟩
  go_wp2
  go_ret
  exact ⟨⟨A', k, d, ts, rfl, hk, row.mono (by simp)⟩, ((Bw.refl w).alloc _).cur g1 (by simp)⟩
theorem c_DrawNextDue (hn : n ≤ 1000000) (w : World) (h : Code8 w A n) :
    Calls Try.prog 30 #[.slice A n c] w fun e w' => (∃ A' k d, ∃ ts : List Timer, e = .returned (.slice A' k d) ∧ k ≤ 12 ∧ Row w' w.heap.size 26 3 Timer.cells A' k d ts) ∧ Bw w w' := by
  go_enter Try.func30, Try.ntmps30
  go_wp2_with fail
  refine (c_DrawIsValidTimers A n c hn _ h).mono ?_
  rintro e w1 ⟨⟨A', k, d, ts, rfl, hk, row⟩, h1⟩
  go_wp2
  go_ret
  exact ⟨⟨A', k, d, ts, rfl, hk, row⟩, h1⟩
theorem c_DrawStopTimer (hn : n ≤ 1000000) (w : World) (h : Code8 w A n) :
    Calls Try.prog 27 #[.slice A n c] w fun e w' => (∃ A' k d, ∃ (ts : List Timer) (x : Int), e = .returned (.tuple #[.slice A' k d, .int .i64 x]) ∧ k ≤ 12 ∧ Row w' w.heap.size 26 3 Timer.cells A' k d ts) ∧ Bw w w' := by
  go_enter Try.func27, Try.ntmps27
  go_wp2_with fail
  refine (c_timers _ A n c 0 (by omega) hn _ (CurE.new w A n c _ h)).mono ?_
  rintro e w1 ⟨⟨A', k, d, ts, rfl, hk, row⟩, h1, g1⟩
  have row := row.mono (lo' := w.heap.size + 1) (by simp)
  have rd1 := row.rd (fun _ => rfl)
  have l1 := row.lt
  go_wp2_with fail
  refine (c_timerId _ A n c _ A' k d ts (by omega) (by omega) hn _ h1 rd1 (fun x hx => by have := (l1 x hx).1; omega)).mono ?_
  rintro e w2 ⟨⟨x, rfl⟩, h2, g2⟩
  go_wp2
  go_ret2
  exact ⟨⟨A', k, d, ts, x, rfl, hk, (row.grown g2 (fun x hx he => by have := (l1 x hx).1; simp only [Option.some.injEq] at he; omega)).mono (by omega)⟩, (((Bw.refl w).alloc _).cur g1 (by simp)).cur g2 (by simp)⟩
theorem c_DrawDueTimers (hn : n ≤ 1000000) (w : World) (h : Code8 w A n) :
    Calls Try.prog 57 #[.slice A n c] w fun e w' => (∃ A' k d, ∃ (ts : List Timer) (x : Int), e = .returned (.tuple #[.slice A' k d, .int .i64 x]) ∧ k ≤ 12 ∧ Row w' w.heap.size 26 3 Timer.cells A' k d ts) ∧ Bw w w' := by
  go_enter Try.func57, Try.ntmps57
  go_wp2_with fail
  refine (c_timers _ A n c 0 (by omega) hn _ (CurE.new w A n c _ h)).mono ?_
  rintro e w1 ⟨⟨A', k, d, ts, rfl, hk, row⟩, h1, g1⟩
  have row := row.mono (lo' := w.heap.size + 1) (by simp)
  have rd1 := row.rd (fun _ => rfl)
  have l1 := row.lt
  go_wp2_with fail
  refine (c_tick8 _ A n c _ (by omega) hn _ h1).mono ?_
  rintro e w2 ⟨⟨x, rfl⟩, h2, g2⟩
  go_wp2
  go_ret2
  exact ⟨⟨A', k, d, ts, x, rfl, hk, (row.grown g2 (fun x hx he => by have := (l1 x hx).1; simp only [Option.some.injEq] at he; omega)).mono (by omega)⟩, (((Bw.refl w).alloc _).cur g1 (by simp)).cur g2 (by simp)⟩
theorem c_DrawFireTimer (hn : n ≤ 1000000) (w : World) (h : Code8 w A n) :
    Calls Try.prog 12 #[.slice A n c] w fun e w' => (∃ A' k d, ∃ (ts : List Timer) (x : Int), e = .returned (.tuple #[.slice A' k d, .int .i64 x]) ∧ k ≤ 12 ∧ Row w' w.heap.size 26 3 Timer.cells A' k d ts) ∧ Bw w w' := by
  go_enter Try.func12, Try.ntmps12
  go_wp2_with fail
  refine (c_DrawStopTimer A n c hn _ h).mono ?_
  rintro e w1 ⟨⟨A', k, d, ts, x, rfl, hk, row⟩, h1⟩
  go_wp2
  go_ret2
  exact ⟨⟨A', k, d, ts, x, rfl, hk, row⟩, h1⟩
theorem c_DrawRunTimers (hn : n ≤ 1000000) (w : World) (h : Code8 w A n) :
    Calls Try.prog 20 #[.slice A n c] w fun e w' => (∃ A' k d, ∃ (ts : List Timer) (x : Int), e = .returned (.tuple #[.slice A' k d, .int .i64 x]) ∧ k ≤ 12 ∧ Row w' w.heap.size 26 3 Timer.cells A' k d ts) ∧ Bw w w' := by
  go_enter Try.func20, Try.ntmps20
  go_wp2_with fail
  refine (c_DrawDueTimers A n c hn _ h).mono ?_
  rintro e w1 ⟨⟨A', k, d, ts, x, rfl, hk, row⟩, h1⟩
  go_wp2
  go_ret2
  exact ⟨⟨A', k, d, ts, x, rfl, hk, row⟩, h1⟩
end
end Go.Proofs.Ytjejfkndiecmaaa
