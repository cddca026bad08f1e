
/- StateCounts: the program's and the reference's come to one function. -/
import Derived.Test.YtnejeigcdogolaaR2
namespace Go.Proofs.Ytnejeigcdogolaa
open Go.RowKit
def cntS (ts : List Request) (s : Int) : Nat → Int
  | 0 => 0
  | k + 1 => cntS ts s k + if (requestAt ts k).state = s then 1 else 0
theorem cntS_bd (ts : List Request) (s : Int) (k : Nat) : 0 ≤ cntS ts s k ∧ cntS ts s k ≤ k := by
  induction k with
  | zero => simp [cntS]
  | succ k ih => simp only [cntS]; split <;> omega
def stateCounts (ts : List Request) (base : Int) (n : Nat) (s : Int) : Int := if goodR ts base = true then cntS ts s n else 0
theorem c_sStateCounts (A : Option Addr) (n c : Nat) (ts : List Request) (base : Int) (w : World) (hm : n ≤ 9223372036854775807) (h : Rd w A n 4 (ts.map Request.cells)) :
    Calls Try.prog 21 #[.slice A n c, .int .i64 base] w fun e w' => e = .returned (.tuple #[.agg #[.int .i64 (stateCounts ts base n 1), .int .i64 (stateCounts ts base n 2), .int .i64 (stateCounts ts base n 3)], .bool (goodR ts base)]) ∧ Bw w w' := by
  have hl := Lib.hid h.requestlen
  cases hg : goodR ts base
  · have HR := Lib.hid (show ∀ s, stateCounts ts base n s = 0 by intro s; simp [stateCounts, hg])
    go_enter Try.func21, Try.ntmps21
    go_wp2_with (go_at_call 38; refine (c_l12Good _ _ _ ts _ hg _ hm (h.keep (by (repeat (first | with_reducible assumption | exact Bw.refl _ | (with_reducible refine Bw.setCell ?_ (by simp) _) | (with_reducible refine Bw.alloc ?_ _) | (with_reducible refine Bw.drew ?_) | (with_reducible refine Bw.drewN ?_ _)))))).mono ?_; rintro e w1 ⟨rfl, hb1⟩; have q0 := hb1.cellv (p := ⟨w.heap.size, 0, none⟩) (v := .int .i64 0) (by go_simp); have q1 := hb1.cellv (p := ⟨w.heap.size, 1, none⟩) (v := .int .i64 0) (by go_simp); have q2 := hb1.cellv (p := ⟨w.heap.size, 2, none⟩) (v := .int .i64 0) (by go_simp); have p0 := hb1.cellv (p := ⟨w.heap.size + 1, 0, none⟩) (v := .int .i64 0) (by go_simp); have p1 := hb1.cellv (p := ⟨w.heap.size + 1, 1, none⟩) (v := .int .i64 0) (by go_simp); have p2 := hb1.cellv (p := ⟨w.heap.size + 1, 2, none⟩) (v := .int .i64 0) (by go_simp); have hs1 : w.heap.size + 1 < w1.heap.size := (by have := hb1.size; simp at this; omega); have g0 : ∀ j, w1.frozen? ⟨w.heap.size, j, none⟩ = false := (fun j => by rw [hb1.frz _ (by simp <;> omega)]; go_simp); have g1 : ∀ j, w1.frozen? ⟨w.heap.size + 1, j, none⟩ = false := (fun j => by rw [hb1.frz _ (by simp <;> omega)]; go_simp))
    exact bodyPost_ret (v := .tuple #[.agg #[.int .i64 0, .int .i64 0, .int .i64 0], .bool false]) (by simp [results, Try.results21, go_sem, q0, q1, q2]) rfl ⟨by rw [HR.out, HR.out, HR.out], by have hb : Bw w w1 := Bw.trans (by (repeat (first | with_reducible assumption | exact Bw.refl _ | (with_reducible refine Bw.setCell ?_ (by simp) _) | (with_reducible refine Bw.alloc ?_ _) | (with_reducible refine Bw.drew ?_) | (with_reducible refine Bw.drewN ?_ _)))) hb1; (repeat (first | with_reducible assumption | exact Bw.refl _ | (with_reducible refine Bw.setCell ?_ (by simp) _) | (with_reducible refine Bw.alloc ?_ _) | (with_reducible refine Bw.drew ?_) | (with_reducible refine Bw.drewN ?_ _)))⟩
  · have HR := Lib.hid (show ∀ s, stateCounts ts base n s = cntS ts s n by intro s; simp [stateCounts, hg])
    have hn8 : n ≤ 8 := by rw [← hl.out]; exact (goodR_iff.1 hg).2.1
    have Hg := Lib.hid hg
    clear hg
    go_enter Try.func21, Try.ntmps21
    go_wp2_with (go_at_call 38; refine (c_l12Good _ _ _ ts _ Hg.out _ hm (h.keep (by (repeat (first | with_reducible assumption | exact Bw.refl _ | (with_reducible refine Bw.setCell ?_ (by simp) _) | (with_reducible refine Bw.alloc ?_ _) | (with_reducible refine Bw.drew ?_) | (with_reducible refine Bw.drewN ?_ _)))))).mono ?_; rintro e w1 ⟨rfl, hb1⟩; have q0 := hb1.cellv (p := ⟨w.heap.size, 0, none⟩) (v := .int .i64 0) (by go_simp); have q1 := hb1.cellv (p := ⟨w.heap.size, 1, none⟩) (v := .int .i64 0) (by go_simp); have q2 := hb1.cellv (p := ⟨w.heap.size, 2, none⟩) (v := .int .i64 0) (by go_simp); have p0 := hb1.cellv (p := ⟨w.heap.size + 1, 0, none⟩) (v := .int .i64 0) (by go_simp); have p1 := hb1.cellv (p := ⟨w.heap.size + 1, 1, none⟩) (v := .int .i64 0) (by go_simp); have p2 := hb1.cellv (p := ⟨w.heap.size + 1, 2, none⟩) (v := .int .i64 0) (by go_simp); have hs1 : w.heap.size + 1 < w1.heap.size := (by have := hb1.size; simp at this; omega); have g0 : ∀ j, w1.frozen? ⟨w.heap.size, j, none⟩ = false := (fun j => by rw [hb1.frz _ (by simp <;> omega)]; go_simp); have g1 : ∀ j, w1.frozen? ⟨w.heap.size + 1, j, none⟩ = false := (fun j => by rw [hb1.frz _ (by simp <;> omega)]; go_simp))
    go_loopw [7, 8] (fun i _s wr => ∃ k : Nat, k ≤ n ∧ i = .int .i64 k ∧ wr.cell? ⟨w.heap.size + 1, 0, none⟩ = some (.int .i64 (cntS ts 1 k)) ∧ wr.cell? ⟨w.heap.size + 1, 1, none⟩ = some (.int .i64 (cntS ts 2 k)) ∧ wr.cell? ⟨w.heap.size + 1, 2, none⟩ = some (.int .i64 (cntS ts 3 k)) ∧
        (wr.cell? ⟨w.heap.size, 0, none⟩ = some (.int .i64 0) ∧ wr.cell? ⟨w.heap.size, 1, none⟩ = some (.int .i64 0) ∧ wr.cell? ⟨w.heap.size, 2, none⟩ = some (.int .i64 0)) ∧ (∀ j, wr.frozen? ⟨w.heap.size, j, none⟩ = false) ∧ (∀ j, wr.frozen? ⟨w.heap.size + 1, j, none⟩ = false) ∧ w.heap.size + 1 < wr.heap.size ∧ Bw w wr) (fun i _ _ => n - (intOf i).toNat)
    case atStart => exact ⟨0, Nat.zero_le _, rfl, p0, p1, p2, ⟨q0, q1, q2⟩, g0, g1, hs1, Bw.trans (by (repeat (first | with_reducible assumption | exact Bw.refl _ | (with_reducible refine Bw.setCell ?_ (by simp) _) | (with_reducible refine Bw.alloc ?_ _) | (with_reducible refine Bw.drew ?_) | (with_reducible refine Bw.drewN ?_ _)))) hb1⟩
    case round =>
      obtain ⟨k, hk, rfl, c0, c1, c2, ⟨q0, q1, q2⟩, g0, g1, hs, hbl⟩ := hrel
      have ⟨_, _⟩ := cntS_bd ts 1 k
      have ⟨_, _⟩ := cntS_bd ts 2 k
      have ⟨_, _⟩ := cntS_bd ts 3 k
      by_cases hlt : k < n
      · obtain ⟨b, off, rfl, hb, hc⟩ := (h.keep hbl).request (by omega)
        have ⟨h0, h1, h2, h3⟩ := hc k hlt
        have hst := (goodR_bd Hg.out (j := k) (by rw [hl.out]; exact hlt)).2.2.1
        clear hc
        rcases (show (requestAt ts k).state = 1 ∨ (requestAt ts k).state = 2 ∨ (requestAt ts k).state = 3 by omega) with he | he | he
        all_goals
          rw [he] at h1
          have HE := Lib.hid he
          clear he hst
          go_wp2
        · go_roundw
          case rel => exact ⟨k + 1, by omega, by go_num, by simp [cntS, HE.out, go_sem, c0, c1, c2], by simp [cntS, HE.out, go_sem, c0, c1, c2], by simp [cntS, HE.out, go_sem, c0, c1, c2], ⟨by simp [go_sem, q0, q1, q2], by simp [go_sem, q0, q1, q2], by simp [go_sem, q0, q1, q2]⟩, fun j => by simp [go_sem, g0], fun j => by simp [go_sem, g1], by simpa using hs, hbl.setCell (by simp) _⟩
          case measure => simp [intOf]; omega
        · go_roundw
          case rel => exact ⟨k + 1, by omega, by go_num, by simp [cntS, HE.out, go_sem, c0, c1, c2], by simp [cntS, HE.out, go_sem, c0, c1, c2], by simp [cntS, HE.out, go_sem, c0, c1, c2], ⟨by simp [go_sem, q0, q1, q2], by simp [go_sem, q0, q1, q2], by simp [go_sem, q0, q1, q2]⟩, fun j => by simp [go_sem, g0], fun j => by simp [go_sem, g1], by simpa using hs, hbl.setCell (by simp) _⟩
          case measure => simp [intOf]; omega
        · go_roundw
          case rel => exact ⟨k + 1, by omega, by go_num, by simp [cntS, HE.out, go_sem, c0, c1, c2], by simp [cntS, HE.out, go_sem, c0, c1, c2], by simp [cntS, HE.out, go_sem, c0, c1, c2], ⟨by simp [go_sem, q0, q1, q2], by simp [go_sem, q0, q1, q2], by simp [go_sem, q0, q1, q2]⟩, fun j => by simp [go_sem, g0], fun j => by simp [go_sem, g1], by simpa using hs, hbl.setCell (by simp) _⟩
          case measure => simp [intOf]; omega
      · go_wp2
        obtain rfl : k = n := by omega
        exact bodyPost_ret (v := .tuple #[.agg #[.int .i64 (cntS ts 1 k), .int .i64 (cntS ts 2 k), .int .i64 (cntS ts 3 k)], .bool true]) (by simp [results, Try.results21, go_sem, q0, q1, q2]) rfl ⟨by rw [HR.out, HR.out, HR.out], by (repeat (first | with_reducible assumption | exact Bw.refl _ | (with_reducible refine Bw.setCell ?_ (by simp) _) | (with_reducible refine Bw.alloc ?_ _) | (with_reducible refine Bw.drew ?_) | (with_reducible refine Bw.drewN ?_ _)))⟩
theorem c_iStateCounts (A : Option Addr) (n c : Nat) (ts : List Request) (base : Int) (w : World) (hm : n ≤ 9223372036854775807) (h : Rd w A n 4 (ts.map Request.cells)) :
    Calls Try.prog 20 #[.slice A n c, .int .i64 base] w fun e w' => e = .returned (.tuple #[.agg #[.int .i64 (stateCounts ts base n 1), .int .i64 (stateCounts ts base n 2), .int .i64 (stateCounts ts base n 3)], .bool (goodR ts base)]) ∧ Bw w w' := by
  have hl := Lib.hid h.requestlen
  cases hg : goodR ts base
  · have HR := Lib.hid (show ∀ s, stateCounts ts base n s = 0 by intro s; simp [stateCounts, hg])
    go_enter Try.func20, Try.ntmps20
    go_wp2_with (go_at_call 12; refine (c_AreRequests _ _ _ ts _ hg _ hm (h.keep (by (repeat (first | with_reducible assumption | exact Bw.refl _ | (with_reducible refine Bw.setCell ?_ (by simp) _) | (with_reducible refine Bw.alloc ?_ _) | (with_reducible refine Bw.drew ?_) | (with_reducible refine Bw.drewN ?_ _)))))).mono ?_; rintro e w1 ⟨rfl, hb1⟩; have q0 := hb1.cellv (p := ⟨w.heap.size, 0, none⟩) (v := .int .i64 0) (by go_simp); have q1 := hb1.cellv (p := ⟨w.heap.size, 1, none⟩) (v := .int .i64 0) (by go_simp); have q2 := hb1.cellv (p := ⟨w.heap.size, 2, none⟩) (v := .int .i64 0) (by go_simp); have g0 : ∀ j, w1.frozen? ⟨w.heap.size, j, none⟩ = false := (fun j => by rw [hb1.frz _ (by simp <;> omega)]; go_simp))
    exact bodyPost_ret (v := .tuple #[.agg #[.int .i64 0, .int .i64 0, .int .i64 0], .bool false]) (by simp [results, Try.results20, go_sem, q0, q1, q2]) rfl ⟨by rw [HR.out, HR.out, HR.out], by have hb : Bw w w1 := Bw.trans (by (repeat (first | with_reducible assumption | exact Bw.refl _ | (with_reducible refine Bw.setCell ?_ (by simp) _) | (with_reducible refine Bw.alloc ?_ _) | (with_reducible refine Bw.drew ?_) | (with_reducible refine Bw.drewN ?_ _)))) hb1; (repeat (first | with_reducible assumption | exact Bw.refl _ | (with_reducible refine Bw.setCell ?_ (by simp) _) | (with_reducible refine Bw.alloc ?_ _) | (with_reducible refine Bw.drew ?_) | (with_reducible refine Bw.drewN ?_ _)))⟩
  · have HR := Lib.hid (show ∀ s, stateCounts ts base n s = cntS ts s n by intro s; simp [stateCounts, hg])
    have hn8 : n ≤ 8 := by rw [← hl.out]; exact (goodR_iff.1 hg).2.1
    have Hg := Lib.hid hg
    clear hg
    go_enter Try.func20, Try.ntmps20
    go_wp2_with (go_at_call 12; refine (c_AreRequests _ _ _ ts _ Hg.out _ hm (h.keep (by (repeat (first | with_reducible assumption | exact Bw.refl _ | (with_reducible refine Bw.setCell ?_ (by simp) _) | (with_reducible refine Bw.alloc ?_ _) | (with_reducible refine Bw.drew ?_) | (with_reducible refine Bw.drewN ?_ _)))))).mono ?_; rintro e w1 ⟨rfl, hb1⟩; have q0 := hb1.cellv (p := ⟨w.heap.size, 0, none⟩) (v := .int .i64 0) (by go_simp); have q1 := hb1.cellv (p := ⟨w.heap.size, 1, none⟩) (v := .int .i64 0) (by go_simp); have q2 := hb1.cellv (p := ⟨w.heap.size, 2, none⟩) (v := .int .i64 0) (by go_simp); have hs1 : w.heap.size < w1.heap.size := (by have := hb1.size; simp at this; omega); have g0 : ∀ j, w1.frozen? ⟨w.heap.size, j, none⟩ = false := (fun j => by rw [hb1.frz _ (by simp <;> omega)]; go_simp))
    go_loopw [16] (fun i wr => ∃ k : Nat, k ≤ n ∧ i = .int .i64 k ∧ wr.cell? ⟨w1.heap.size, 0, none⟩ = some (.int .i64 (cntS ts 1 k)) ∧ wr.cell? ⟨w1.heap.size, 1, none⟩ = some (.int .i64 (cntS ts 2 k)) ∧ wr.cell? ⟨w1.heap.size, 2, none⟩ = some (.int .i64 (cntS ts 3 k)) ∧
        (wr.cell? ⟨w.heap.size, 0, none⟩ = some (.int .i64 0) ∧ wr.cell? ⟨w.heap.size, 1, none⟩ = some (.int .i64 0) ∧ wr.cell? ⟨w.heap.size, 2, none⟩ = some (.int .i64 0)) ∧ (∀ j, wr.frozen? ⟨w.heap.size, j, none⟩ = false) ∧ (∀ j, wr.frozen? ⟨w1.heap.size, j, none⟩ = false) ∧ w1.heap.size < wr.heap.size ∧ Bw w wr) (fun i _ => n - (intOf i).toNat)
    case atStart => exact ⟨0, Nat.zero_le _, rfl, by go_simp; rfl, by go_simp; rfl, by go_simp; rfl, ⟨by go_simp, by go_simp, by go_simp⟩, fun j => by go_simp, fun j => by go_simp, by simp, (Bw.trans (by (repeat (first | with_reducible assumption | exact Bw.refl _ | (with_reducible refine Bw.setCell ?_ (by simp) _) | (with_reducible refine Bw.alloc ?_ _) | (with_reducible refine Bw.drew ?_) | (with_reducible refine Bw.drewN ?_ _)))) hb1).alloc _⟩
    case round =>
      obtain ⟨k, hk, rfl, c0, c1, c2, ⟨q0, q1, q2⟩, g0, g1, hs, hbl⟩ := hrel
      have hsw : w.heap.size < wr.heap.size := by omega
      have hne : ¬ w.heap.size = w1.heap.size := by omega
      have ⟨_, _⟩ := cntS_bd ts 1 k
      have ⟨_, _⟩ := cntS_bd ts 2 k
      have ⟨_, _⟩ := cntS_bd ts 3 k
      by_cases hlt : k < n
      · obtain ⟨b, off, rfl, hb, hc⟩ := (h.keep hbl).request (by omega)
        have hb' : b < wr.heap.size + 1 := by omega
        have ⟨h0, h1, h2, h3⟩ := hc k hlt
        have hst := (goodR_bd Hg.out (j := k) (by rw [hl.out]; exact hlt)).2.2.1
        clear hc
        rcases (show (requestAt ts k).state = 1 ∨ (requestAt ts k).state = 2 ∨ (requestAt ts k).state = 3 by omega) with he | he | he
        all_goals
          rw [he] at h1
          have HE := Lib.hid he
          clear he hst
          go_wp2
        · go_roundw
          case rel => exact ⟨k + 1, by omega, by go_num, by simp [cntS, HE.out, go_sem, hs, c0, c1, c2], by simp [cntS, HE.out, go_sem, hs, c0, c1, c2], by simp [cntS, HE.out, go_sem, hs, c0, c1, c2], ⟨by simp [go_sem, hs, hsw, hne, q0, q1, q2], by simp [go_sem, hs, hsw, hne, q0, q1, q2], by simp [go_sem, hs, hsw, hne, q0, q1, q2]⟩, fun j => by simp [go_sem, hsw, g0], fun j => by simp [go_sem, hs, g1], by simp; omega, (hbl.setCell (p := ⟨w1.heap.size, _, none⟩) (by show w.heap.size ≤ w1.heap.size; omega) _).alloc _⟩
          case measure => simp [intOf]; omega
        · go_roundw
          case rel => exact ⟨k + 1, by omega, by go_num, by simp [cntS, HE.out, go_sem, hs, c0, c1, c2], by simp [cntS, HE.out, go_sem, hs, c0, c1, c2], by simp [cntS, HE.out, go_sem, hs, c0, c1, c2], ⟨by simp [go_sem, hs, hsw, hne, q0, q1, q2], by simp [go_sem, hs, hsw, hne, q0, q1, q2], by simp [go_sem, hs, hsw, hne, q0, q1, q2]⟩, fun j => by simp [go_sem, hsw, g0], fun j => by simp [go_sem, hs, g1], by simp; omega, (hbl.setCell (p := ⟨w1.heap.size, _, none⟩) (by show w.heap.size ≤ w1.heap.size; omega) _).alloc _⟩
          case measure => simp [intOf]; omega
        · go_roundw
          case rel => exact ⟨k + 1, by omega, by go_num, by simp [cntS, HE.out, go_sem, hs, c0, c1, c2], by simp [cntS, HE.out, go_sem, hs, c0, c1, c2], by simp [cntS, HE.out, go_sem, hs, c0, c1, c2], ⟨by simp [go_sem, hs, hsw, hne, q0, q1, q2], by simp [go_sem, hs, hsw, hne, q0, q1, q2], by simp [go_sem, hs, hsw, hne, q0, q1, q2]⟩, fun j => by simp [go_sem, hsw, g0], fun j => by simp [go_sem, hs, g1], by simp; omega, (hbl.setCell (p := ⟨w1.heap.size, _, none⟩) (by show w.heap.size ≤ w1.heap.size; omega) _).alloc _⟩
          case measure => simp [intOf]; omega
      · go_wp2
        obtain rfl : k = n := by omega
        exact bodyPost_ret (v := .tuple #[.agg #[.int .i64 (cntS ts 1 k), .int .i64 (cntS ts 2 k), .int .i64 (cntS ts 3 k)], .bool true]) (by simp [results, Try.results20, go_sem, q0, q1, q2]) rfl ⟨by rw [HR.out, HR.out, HR.out], by (repeat (first | with_reducible assumption | exact Bw.refl _ | (with_reducible refine Bw.setCell ?_ (by simp) _) | (with_reducible refine Bw.alloc ?_ _) | (with_reducible refine Bw.drew ?_) | (with_reducible refine Bw.drewN ?_ _)))⟩
end Go.Proofs.Ytnejeigcdogolaa
