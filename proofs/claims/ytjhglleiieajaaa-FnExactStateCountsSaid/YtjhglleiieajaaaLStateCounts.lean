
/- The law FnExactStateCounts: the walk. -/
import Derived.Test.YtjhglleiieajaaaR3
import Derived.Test.YtjhglleiieajaaaI
namespace Go.Proofs.Ytjhglleiieajaaa
open Go.RowKit
theorem c_eqIntA3 (a b c : Int) (w : World) : Calls Try.prog 21 #[.agg #[.int .i64 a, .int .i64 b, .int .i64 c], .agg #[.int .i64 a, .int .i64 b, .int .i64 c]] w fun e w' => e = .returned (.bool true) ∧ Bw w w' := by
  have k0 : ∀ k : Nat, k < 3 → ((w.alloc (.cells #[.int .i64 a, .int .i64 b, .int .i64 c] 29)).alloc (.cells #[.int .i64 a, .int .i64 b, .int .i64 c] 29)).cell? ⟨w.heap.size, k, none⟩ = some (.int .i64 (intAt [a, b, c] k)) := by
    intro k hk
    match k, hk with
    | 0, _ => go_simp; rfl
    | 1, _ => go_simp; rfl
    | 2, _ => go_simp; rfl
  have k1 : ∀ k : Nat, k < 3 → ((w.alloc (.cells #[.int .i64 a, .int .i64 b, .int .i64 c] 29)).alloc (.cells #[.int .i64 a, .int .i64 b, .int .i64 c] 29)).cell? ⟨w.heap.size + 1, k, none⟩ = some (.int .i64 (intAt [a, b, c] k)) := by
    intro k hk
    match k, hk with
    | 0, _ => go_simp; rfl
    | 1, _ => go_simp; rfl
    | 2, _ => go_simp; rfl
  have K0 := Lib.hid k0
  have K1 := Lib.hid k1
  clear k0 k1
  go_enter Try.func21, Try.ntmps21
  go_wp2
  go_loopw [5] (fun i wr => ∃ k : Nat, k ≤ 3 ∧ i = .int .i64 k ∧ (∀ k : Nat, k < 3 → wr.cell? ⟨w.heap.size, k, none⟩ = some (.int .i64 (intAt [a, b, c] k))) ∧ (∀ k : Nat, k < 3 → wr.cell? ⟨w.heap.size + 1, k, none⟩ = some (.int .i64 (intAt [a, b, c] k))) ∧ w.heap.size + 1 < wr.heap.size ∧ Bw w wr) (fun i _ => 3 - (intOf i).toNat)
  case atStart => exact ⟨0, Nat.zero_le _, rfl, K0.out, K1.out, by simp, by (repeat (first | with_reducible assumption | exact Bw.refl _ | (with_reducible refine Bw.setCell ?_ (by simp) _) | (with_reducible refine Bw.alloc ?_ _) | (with_reducible refine Bw.drew ?_) | (with_reducible refine Bw.drewN ?_ _)))⟩
  case round =>
    obtain ⟨k, hk, rfl, hc, hc', hs, hbl⟩ := hrel
    have hs' : w.heap.size < wr.heap.size := by omega
    by_cases hlt : k < 3
    · have h0 := hc k hlt
      have h1 := hc' k hlt
      have Hc := Lib.hid hc
      have Hc' := Lib.hid hc'
      clear hc hc'
      go_wp2
      (refine wp_region_ext (by kernel_rfl) (by kernel_rfl) ?_; (repeat (go_big_quiet_step (fail))); (with_reducible refine wpQuiet_nil ?_); intro w2 hb2)
      go_wp2
      go_roundw
      case rel => exact ⟨k + 1, by omega, by go_num, fun j hj => hb2.cellv (Hc.out j hj), fun j hj => hb2.cellv (Hc'.out j hj), Nat.lt_of_lt_of_le hs hb2.size, hbl.trans hb2⟩
      case measure => simp [intOf]; omega
    · have Hc := Lib.hid hc
      clear hc hc'
      go_wp2
      go_ret
      exact ⟨rfl, hbl⟩
theorem w_StateCounts (A : Option Addr) (n c : Nat) (ts : List Request) (base : Int) (w : World) (hm : n ≤ 9223372036854775807) (h : Rd w A n 4 (ts.map Request.cells)) :
    Calls Try.prog 4 #[.slice A n c, .int .i64 base] w fun e w' => e = .returned (.bool true) ∧ Bw w w' := by
  generalize hR1 : stateCounts ts base n 1 = r1
  generalize hR2 : stateCounts ts base n 2 = r2
  generalize hR3 : stateCounts ts base n 3 = r3
  generalize hRg : goodR ts base = rg
  have HR1 := Lib.hid hR1
  have HR2 := Lib.hid hR2
  have HR3 := Lib.hid hR3
  have HRg := Lib.hid hRg
  clear hR1 hR2 hR3 hRg
  go_enter Try.func4, Try.ntmps4
  go_wp2_with (go_at_call 14; refine (c_szRequestS _ _ _ hm _).mono ?_; rintro e w1 ⟨⟨m, rfl, hmm⟩, rfl⟩)
  · go_ret
    exact ⟨rfl, Bw.refl _⟩
  · have hn : n ≤ 1048576 := by omega
    clear hmm
    refine (c_toRequestS _ _ _ ts _ hn h).mono ?_
    rintro e w1 ⟨⟨A1, c1, rfl, row1⟩, hb1⟩
    have rd1 := row1.rd (fun _ => rfl)
    go_wp2_with fail
    refine (c_sStateCounts _ _ _ ts base _ hm rd1).mono ?_
    rw [HR1.out, HR2.out, HR3.out, HRg.out]
    rintro e w2 ⟨rfl, hb2⟩
    have h2 := (h.keep hb1).keep hb2
    go_wp2_with fail
    refine (c_toRequestS _ _ _ ts _ hn (h2.keep (by (repeat (first | with_reducible assumption | exact Bw.refl _ | (with_reducible refine Bw.setCell ?_ (by simp) _) | (with_reducible refine Bw.alloc ?_ _) | (with_reducible refine Bw.drew ?_) | (with_reducible refine Bw.drewN ?_ _)))))).mono ?_
    rintro e w3 ⟨⟨A3, c3, rfl, row3⟩, hb3⟩
    have u0 := hb3.cellv (p := ⟨w2.heap.size, 0, none⟩) (v := .int .i64 r1) (by go_simp)
    have u1 := hb3.cellv (p := ⟨w2.heap.size, 1, none⟩) (v := .int .i64 r2) (by go_simp)
    have u2 := hb3.cellv (p := ⟨w2.heap.size, 2, none⟩) (v := .int .i64 r3) (by go_simp)
    have hb23 : Bw w2 w3 := Bw.trans (by (repeat (first | with_reducible assumption | exact Bw.refl _ | (with_reducible refine Bw.setCell ?_ (by simp) _) | (with_reducible refine Bw.alloc ?_ _) | (with_reducible refine Bw.drew ?_) | (with_reducible refine Bw.drewN ?_ _)))) hb3
    have rd3 := row3.rd (fun _ => rfl)
    go_wp2_with fail
    refine (c_iStateCounts _ _ _ ts base _ hm rd3).mono ?_
    rw [HR1.out, HR2.out, HR3.out, HRg.out]
    rintro e w4 ⟨rfl, hb4⟩
    have v0 := hb4.cellv u0
    have v1 := hb4.cellv u1
    have v2 := hb4.cellv u2
    have hs4 : w2.heap.size < w4.heap.size := World.block_lt_of_cell? w4 _ v0
    have h4 := (h2.keep hb23).keep hb4
    go_wp2_with fail
    refine (c_eqIntA3 _ _ _ _).mono ?_
    rintro e w5 ⟨rfl, hb5⟩
    have hb45 : Bw w4 w5 := Bw.trans (by (repeat (first | with_reducible assumption | exact Bw.refl _ | (with_reducible refine Bw.setCell ?_ (by simp) _) | (with_reducible refine Bw.alloc ?_ _) | (with_reducible refine Bw.drew ?_) | (with_reducible refine Bw.drewN ?_ _)))) hb5
    go_wp2_with fail
    refine (c_toRequestS _ _ _ ts _ hn (h4.keep hb45)).mono ?_
    rintro e w6 ⟨⟨A6, c6, rfl, row6⟩, hb6⟩
    have rd6 := row6.rd (fun _ => rfl)
    have rd36 := ((rd3.keep hb4).keep hb45).keep hb6
    go_wp2_with fail
    refine (c_eqRequestS _ _ _ _ _ ts _ hm rd36 rd6).mono ?_
    rintro e w7 ⟨rfl, hb7⟩
    go_wp2_with fail
    go_ret
    exact ⟨rfl, (((((hb1.trans hb2).trans hb23).trans hb4).trans hb45).trans hb6).trans hb7⟩
end Go.Proofs.Ytjhglleiieajaaa
