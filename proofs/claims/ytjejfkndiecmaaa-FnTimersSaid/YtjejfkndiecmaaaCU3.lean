
/- The drawn timers. -/
import Derived.Test.YtjejfkndiecmaaaCU2
import Derived.Test.YtjejfkndiecmaaaT1
namespace Go.Proofs.Ytjejfkndiecmaaa
open Go.RowKit
section
variable (b : Nat) (A : Option Addr) (n c m : Nat)
set_option maxRecDepth 100000 in
theorem c_timer (id : Int) (hm : m ≤ 800000) (hn : n ≤ 1000000) (w : World) (h : CurE b A n c m w) :
    Calls Try.prog 35 #[.pointer (some ⟨b, 0, none⟩), .int .i64 id] w fun e w' => (∃ i d p : Int, e = .returned (.agg #[.int .i64 i, .int .i64 d, .int .i64 p])) ∧ CurE b A n c (m + 5) w' ∧ w.grownBy w' (some b) := by
  have hlt := h.lt
  have hA := h.code.lt
  go_enter Try.func35, Try.ntmps35
  go_wp2_with fail
  refine (c_amongL b A n c m _ _ _ _ (by omega) (by omega) (by simp) rfl (by omega) hn _ (h.keep (by (repeat (first | with_reducible assumption | exact Bw.refl _ | (with_reducible refine Bw.setCell ?_ (by simp) _) | (with_reducible refine Bw.alloc ?_ _) | (with_reducible refine Bw.drew ?_) | (with_reducible refine Bw.drewN ?_ _))))) _ (by simp)).mono ?_
  rintro e w1 ⟨⟨x1, rfl⟩, h1, g1⟩
  go_wp2_with fail
  refine (c_amongL b A n c _ _ _ _ _ (by omega) (by omega) (by simp) rfl (by omega) hn _ h1 _ (by simp)).mono ?_
  rintro e w2 ⟨⟨x2, rfl⟩, h2, g2⟩
  have l2 := h2.lt
  have s1 := g1.size
  have s2 := g2.size
  simp only [World.size_alloc] at s1
  have R2 := ((Box.mk' w _ _).gcur g1 (by omega)).gcur g2 (by omega)
  go_wp2_with fail
  refine (c_pickE b A n c _ 50 (by omega) (by omega) (by omega) hn _ (h2.keep (by (repeat (first | with_reducible assumption | exact Bw.refl _ | (with_reducible refine Bw.setCell ?_ (by simp) _) | (with_reducible refine Bw.alloc ?_ _) | (with_reducible refine Bw.drew ?_) | (with_reducible refine Bw.drewN ?_ _)))))).mono ?_
  rintro e w3 ⟨⟨x3, rfl, l3⟩, h3, g3⟩
  have B3 := (Box.mk' w2 _ _).gcur g3 (by omega)
  have R3 := (R2.keep ((Bw.refl w2).alloc _)).gcur g3 (by omega)
  have ne1 : w2.heap.size ≠ w.heap.size := by omega
  have g03 := ((gr_alloc (World.grownBy.refl w (some b)) _).trans g1).trans (g2.trans ((((Bw.refl w2).alloc _).gr _).trans g3))
  cases q0 : ((x3 : Int) == 0)
  · cases q1 : ((x3 : Int) == 1)
    · cases q2 : ((x3 : Int) == 2)
      · have ⟨t0, t1, t2⟩ := B3.c3
        have ⟨r0, r1, r2⟩ := R3.c3
        have tf := B3.fz
        have rf := R3.fz
        go_wp2
        refine bodyPost_ret (v := .agg #[.int .i64 id, .int .i64 x1, .int .i64 x2]) (by simp [results, Try.results35, go_sem, r0, r1, r2]) rfl ⟨⟨_, _, _, rfl⟩, (((h3.set (lo := w.heap.size) (by simp) hlt hA _).set (lo := w.heap.size) (by simp) hlt hA _).set (lo := w.heap.size) (by simp) hlt hA _).mono (by omega), ?_⟩
        exact gr_set (gr_set (gr_set g03 (by simp) _) (by simp) _) (by simp) _
      ·   go_wp2_with fail
          refine (c_amongL b A n c _ _ _ _ _ (by omega) (by omega) (by simp) rfl (by omega) hn _ h3 _ (by simp)).mono ?_
          rintro e w4 ⟨⟨x4, rfl⟩, h4, g4⟩
          have B4 := B3.gcur g4 (by omega)
          have R4 := R3.gcur g4 (by omega)
          have ⟨t0, t1, t2⟩ := B4.c3
          have ⟨r0, r1, r2⟩ := R4.c3
          have tf := B4.fz
          have rf := R4.fz
          go_wp2
          have hg := (g03.trans g4)
          refine bodyPost_ret (v := .agg #[.int .i64 id, .int .i64 x1, .int .i64 x4]) (by simp [results, Try.results35, go_sem, r0, r1, r2, ne1]) rfl ⟨⟨_, _, _, rfl⟩, ((((h4.set (lo := w.heap.size) (by simp; omega) hlt hA _).set (lo := w.heap.size) (by simp) hlt hA _).set (lo := w.heap.size) (by simp) hlt hA _).set (lo := w.heap.size) (by simp) hlt hA _).mono (by omega), ?_⟩
          exact gr_set (gr_set (gr_set (gr_set hg (by simp; omega) _) (by simp) _) (by simp) _) (by simp) _
    ·   go_wp2_with fail
        refine (c_amongL b A n c _ _ _ _ _ (by omega) (by omega) (by simp) rfl (by omega) hn _ h3 _ (by simp)).mono ?_
        rintro e w4 ⟨⟨x4, rfl⟩, h4, g4⟩
        have B4 := B3.gcur g4 (by omega)
        have R4 := R3.gcur g4 (by omega)
        have ⟨t0, t1, t2⟩ := B4.c3
        have ⟨r0, r1, r2⟩ := R4.c3
        have tf := B4.fz
        have rf := R4.fz
        go_wp2
        have hg := (g03.trans g4)
        refine bodyPost_ret (v := .agg #[.int .i64 id, .int .i64 x4, .int .i64 x2]) (by simp [results, Try.results35, go_sem, r0, r1, r2, ne1]) rfl ⟨⟨_, _, _, rfl⟩, ((((h4.set (lo := w.heap.size) (by simp; omega) hlt hA _).set (lo := w.heap.size) (by simp) hlt hA _).set (lo := w.heap.size) (by simp) hlt hA _).set (lo := w.heap.size) (by simp) hlt hA _).mono (by omega), ?_⟩
        exact gr_set (gr_set (gr_set (gr_set hg (by simp; omega) _) (by simp) _) (by simp) _) (by simp) _
  ·   go_wp2_with fail
      refine (c_amongL b A n c _ _ _ _ _ (by omega) (by omega) (by simp) rfl (by omega) hn _ h3 _ (by simp)).mono ?_
      rintro e w4 ⟨⟨x4, rfl⟩, h4, g4⟩
      have B4 := B3.gcur g4 (by omega)
      have R4 := R3.gcur g4 (by omega)
      have ⟨t0, t1, t2⟩ := B4.c3
      have ⟨r0, r1, r2⟩ := R4.c3
      have tf := B4.fz
      have rf := R4.fz
      go_wp2
      have hg := (g03.trans g4)
      refine bodyPost_ret (v := .agg #[.int .i64 x4, .int .i64 x1, .int .i64 x2]) (by simp [results, Try.results35, go_sem, r0, r1, r2, ne1]) rfl ⟨⟨_, _, _, rfl⟩, ((((h4.set (lo := w.heap.size) (by simp; omega) hlt hA _).set (lo := w.heap.size) (by simp) hlt hA _).set (lo := w.heap.size) (by simp) hlt hA _).set (lo := w.heap.size) (by simp) hlt hA _).mono (by omega), ?_⟩
      exact gr_set (gr_set (gr_set (gr_set hg (by simp; omega) _) (by simp) _) (by simp) _) (by simp) _
def lenW : Value → Nat
  | .slice _ n _ => n
  | _ => 0
set_option maxRecDepth 100000 in
theorem c_timers (hm : m ≤ 700000) (hn : n ≤ 1000000) (w : World) (h : CurE b A n c m w) :
    Calls Try.prog 33 #[.pointer (some ⟨b, 0, none⟩)] w fun e w' => (∃ A' k d, ∃ ts : List Timer, e = .returned (.slice A' k d) ∧ k ≤ 12 ∧ Row w' w.heap.size 26 3 Timer.cells A' k d ts) ∧ CurE b A n c (m + 100) w' ∧ w.grownBy w' (some b) := by
  have hlt := h.lt
  have hA := h.code.lt
  go_enter Try.func33, Try.ntmps33
  go_wp2_with fail
  refine (c_pickE b A n c _ 7 (by omega) (by omega) (by omega) hn _ (h.keep (by (repeat (first | with_reducible assumption | exact Bw.refl _ | (with_reducible refine Bw.setCell ?_ (by simp) _) | (with_reducible refine Bw.alloc ?_ _) | (with_reducible refine Bw.drew ?_) | (with_reducible refine Bw.drewN ?_ _)))))).mono ?_
  rintro e w1 ⟨⟨x1, rfl, l1⟩, h1, g1⟩
  have r1 := (Row.empty w w.heap.size 26 3 Timer.cells (Nat.le_refl _)).grown g1 (fun x hx he => by simp only [Option.some.injEq] at hx he; subst hx; dsimp only at he; omega)
  have g01 := (gr_alloc (World.grownBy.refl w (some b)) (.cells #[] 26)).trans g1
  go_wp2_with fail
  go_loopw [3, 4, 5] (fun v i q wr => ∃ (A' : Option Addr) (k d : Nat) (ts : List Timer) (idv : Int) (j : Nat), v = .slice A' k d ∧ i = .int .i64 idv ∧ q = .int .i64 j ∧ k + j ≤ 6 ∧ Row wr w.heap.size 26 3 Timer.cells A' k d ts ∧ CurE b A n c (m + 1 + 7 * (6 - j)) wr ∧ w.grownBy wr (some b)) (fun _ _ q _ => (intOf q).toNat)
  case atStart => exact ⟨_, _, _, _, _, x1, rfl, rfl, rfl, by omega, r1, h1.mono (by omega), g01⟩
  case round =>
    obtain ⟨A', k, d, ts, idv, j, rfl, rfl, rfl, hkj, hrow, hcur, hg⟩ := hrel
    by_cases hj : 0 < j
    · go_wp2_with fail
      refine (c_pickE b A n c _ 3 (by omega) (by omega) (by omega) hn _ hcur).mono ?_
      rintro e w2 ⟨⟨x2, rfl, l2⟩, h2, g2⟩
      go_wp2_with fail
      refine (c_pickE b A n c _ 60 (by omega) (by omega) (by omega) hn _ h2).mono ?_
      rintro e w3 ⟨⟨x3, rfl, l3⟩, h3, g3⟩
      go_wp2_with fail
      refine (c_timer b A n c _ _ (by omega) hn _ h3).mono ?_
      rintro e w4 ⟨⟨ti, td, tp, rfl⟩, h4, g4⟩
      have g24 := (g2.trans g3).trans g4
      have hrow := hrow.grown g24 (fun x hx he => by have := (hrow.lt x hx).1; simp only [Option.some.injEq] at he; omega)
      have hg4 := hg.trans g24
      have hs4 := hg4.size
      go_wp2_with (at_builtin; refine append_Timer rfl _ _ rfl _ _ _ _ rfl hrow (⟨ti, td, tp⟩) _ rfl _ rfl rfl ?_ ?_ ?_; omega; exact hs4; intro A2 c2 w2 hrow2 hg2 hmv2)
      go_roundw
      case rel =>
        exact ⟨A2, k + 1, c2, _, _, j - 1, rfl, rfl, by go_num, by omega, hrow2, (h4.row hg2 (fun x hx => (hrow.lt x hx).1) hlt hA).mono (by omega), gr_row hg4 hg2 (fun x hx => (hrow.lt x hx).1) (Nat.le_refl _)⟩
      case measure => simp [intOf]; omega
    · go_wp2_with fail
      refine (c_oneE b A n c _ 24 (by omega) (by omega) (by omega) hn _ hcur).mono ?_
      rintro e w5 ⟨⟨x5, rfl⟩, h5, g5⟩
      have hrow5 := hrow.grown g5 (fun x hx he => by have := (hrow.lt x hx).1; simp only [Option.some.injEq] at he; omega)
      have hg5 := hg.trans g5
      clear hrow hcur hg
      cases x5
      · go_wp2
        go_ret
        exact ⟨⟨_, _, _, _, rfl, by omega, hrow5⟩, h5.mono (by omega), hg5⟩
      · go_wp2_with fail
        go_loopw [3, 4] (fun v i wr => ∃ (A' : Option Addr) (k d : Nat) (ts : List Timer) (idv : Int), v = .slice A' k d ∧ i = .int .i64 idv ∧ k ≤ 11 ∧ Row wr w.heap.size 26 3 Timer.cells A' k d ts ∧ CurE b A n c (m + 60 + k) wr ∧ w.grownBy wr (some b)) (fun v _ _ => 12 - lenW v)
        case atStart => exact ⟨_, _, _, _, _, rfl, rfl, by omega, hrow5, h5.mono (by omega), hg5⟩
        case round =>
          obtain ⟨A', k, d, ts, idv, rfl, rfl, hk, hrow, hcur, hg⟩ := hrel
          go_wp2_with fail
          refine (c_pickE b A n c _ 2 (by omega) (by omega) (by omega) hn _ hcur).mono ?_
          rintro e w2 ⟨⟨x2, rfl, l2⟩, h2, g2⟩
          have hrow := hrow.grown g2 (fun x hx he => by have := (hrow.lt x hx).1; simp only [Option.some.injEq] at he; omega)
          have hg4 := hg.trans g2
          have hs4 := hg4.size
          by_cases hc : (k : Int) < 10 + x2
          · go_wp2_with (at_builtin; refine append_Timer rfl _ _ rfl _ _ _ _ rfl hrow (⟨_, 7, 0⟩) _ rfl _ rfl rfl ?_ ?_ ?_; omega; exact hs4; intro A2 c2 w2 hrow2 hg2 hmv2)
            go_roundw
            case rel =>
              exact ⟨A2, k + 1, c2, _, _, rfl, rfl, by omega, hrow2, (h2.row hg2 (fun x hx => (hrow.lt x hx).1) hlt hA).mono (by omega), gr_row hg4 hg2 (fun x hx => (hrow.lt x hx).1) (Nat.le_refl _)⟩
            case measure => simp [lenW]; omega
          · go_wp2
            go_ret
            exact ⟨⟨_, _, _, _, rfl, by omega, hrow⟩, h2.mono (by omega), hg4⟩
end
end Go.Proofs.Ytjejfkndiecmaaa
