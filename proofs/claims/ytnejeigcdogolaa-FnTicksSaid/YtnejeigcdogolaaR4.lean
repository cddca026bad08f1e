
/- DueNumbers: the program's and the reference's come to one function. -/
import Derived.Test.YtnejeigcdogolaaR2
import Derived.Test.YtnejeigcdogolaaI
namespace Go.Proofs.Ytnejeigcdogolaa
open Go.RowKit
def dueK (ts : List Request) (clock : Int) : Nat → List Int
  | 0 => []
  | k + 1 => dueK ts clock k ++ if (requestAt ts k).til ≤ clock then [(requestAt ts k).number] else []
theorem dueK_len (ts : List Request) (clock : Int) (k : Nat) : (dueK ts clock k).length ≤ k := by
  induction k with
  | zero => simp [dueK]
  | succ k ih => simp only [dueK]; split <;> simp <;> omega
def dueN (ts : List Request) (base clock : Int) : List Int := if goodR ts base = true ∧ inR clock 0 9999 = true then dueK ts clock ts.length else []
set_option maxRecDepth 100000 in
theorem c_sDueNumbers (A : Option Addr) (n c : Nat) (ts : List Request) (base clock : Int) (w : World) (hm : n ≤ 9223372036854775807) (h : Rd w A n 4 (ts.map Request.cells)) :
    Calls Try.prog 15 #[.slice A n c, .int .i64 base, .int .i64 clock] w fun e w' => (∃ A' c', e = .returned (.tuple #[.slice A' (dueN ts base clock).length c', .bool (goodR ts base && inR clock 0 9999)]) ∧ Row w' w.heap.size 3 1 icell A' (dueN ts base clock).length c' (dueN ts base clock)) ∧ Bw w w' := by
  have hl := Lib.hid h.requestlen
  cases hg : goodR ts base
  · have HR := Lib.hid (show dueN ts base clock = [] by simp [dueN, hg])
    go_enter Try.func15, Try.ntmps15
    go_wp2_with (go_at_call 38; refine (c_l12Good _ _ _ ts _ hg _ hm (h.keep (by (repeat (first | with_reducible assumption | exact Bw.refl _ | (with_reducible refine Bw.setCell ?_ (by simp) _) | (with_reducible refine Bw.alloc ?_ _) | (with_reducible refine Bw.drew ?_) | (with_reducible refine Bw.drewN ?_ _)))))).mono ?_; rintro e w1 ⟨rfl, hb1⟩)
    go_ret2
    rw [HR.out]
    exact ⟨⟨_, _, rfl, (Row.empty w _ _ _ _ (Nat.le_refl _)).keep hb1⟩, Bw.trans (by (repeat (first | with_reducible assumption | exact Bw.refl _ | (with_reducible refine Bw.setCell ?_ (by simp) _) | (with_reducible refine Bw.alloc ?_ _) | (with_reducible refine Bw.drew ?_) | (with_reducible refine Bw.drewN ?_ _)))) hb1⟩
  · have hn8 : n ≤ 8 := by rw [← hl.out]; exact (goodR_iff.1 hg).2.1
    cases ht : inR clock 0 9999
    · have HR := Lib.hid (show dueN ts base clock = [] by simp [dueN, ht])
      go_enter Try.func15, Try.ntmps15
      go_wp2_with (first | (go_at_call 38; refine (c_l12Good _ _ _ ts _ hg _ hm (h.keep (by (repeat (first | with_reducible assumption | exact Bw.refl _ | (with_reducible refine Bw.setCell ?_ (by simp) _) | (with_reducible refine Bw.alloc ?_ _) | (with_reducible refine Bw.drew ?_) | (with_reducible refine Bw.drewN ?_ _)))))).mono ?_; rintro e w1 ⟨rfl, hb1⟩) | (go_at_call 39; refine (c_l11Clock _ ht _).mono ?_; rintro e w1 ⟨rfl, rfl⟩))
      go_ret2
      rw [HR.out]
      exact ⟨⟨_, _, rfl, (Row.empty w _ _ _ _ (Nat.le_refl _)).keep hb1⟩, Bw.trans (by (repeat (first | with_reducible assumption | exact Bw.refl _ | (with_reducible refine Bw.setCell ?_ (by simp) _) | (with_reducible refine Bw.alloc ?_ _) | (with_reducible refine Bw.drew ?_) | (with_reducible refine Bw.drewN ?_ _)))) hb1⟩
    · have HR := Lib.hid (show dueN ts base clock = dueK ts clock n by simp [dueN, ht, hg, hl.out])
      have Hg := Lib.hid hg
      clear hg
      go_enter Try.func15, Try.ntmps15
      go_wp2_with (first | (go_at_call 38; refine (c_l12Good _ _ _ ts _ Hg.out _ hm (h.keep (by (repeat (first | with_reducible assumption | exact Bw.refl _ | (with_reducible refine Bw.setCell ?_ (by simp) _) | (with_reducible refine Bw.alloc ?_ _) | (with_reducible refine Bw.drew ?_) | (with_reducible refine Bw.drewN ?_ _)))))).mono ?_; rintro e w1 ⟨rfl, hb1⟩) | (go_at_call 39; refine (c_l11Clock _ ht _).mono ?_; rintro e w1 ⟨rfl, rfl⟩))
      go_loopw [8, 9] (fun v i wr => ∃ k : Nat, k ≤ n ∧ i = .int .i64 k ∧ (∃ A c, v = .slice A (dueK ts clock k).length c ∧ Row wr w.heap.size 3 1 icell A (dueK ts clock k).length c (dueK ts clock k)) ∧ Bw w wr) (fun _ i _ => n - (intOf i).toNat)
      case atStart => exact ⟨0, Nat.zero_le _, rfl, ⟨_, _, rfl, (Row.empty w _ _ _ _ (Nat.le_refl _)).keep hb1⟩, Bw.trans (by (repeat (first | with_reducible assumption | exact Bw.refl _ | (with_reducible refine Bw.setCell ?_ (by simp) _) | (with_reducible refine Bw.alloc ?_ _) | (with_reducible refine Bw.drew ?_) | (with_reducible refine Bw.drewN ?_ _)))) hb1⟩
      case round =>
        obtain ⟨k, hk, rfl, ⟨A', c', rfl, hrow⟩, hbl⟩ := hrel
        have hdl := dueK_len ts clock k
        by_cases hlt : k < n
        · obtain ⟨b, off, rfl, hb, hc⟩ := (h.keep hbl).request (by omega)
          have ⟨h0, h1, h2, h3⟩ := hc k hlt
          clear hc
          by_cases hd : (requestAt ts k).til ≤ clock
          · have HD := Lib.hid (show dueK ts clock (k + 1) = dueK ts clock k ++ [(requestAt ts k).number] by simp [dueK, hd])
            go_wp2_with (at_builtin; refine append_int rfl _ _ rfl _ _ _ _ rfl hrow _ _ rfl rfl ?_ ?_ ?_; omega; exact hbl.size; intro A2 c2 w2 hrow2 hg2 hmv2)
            go_roundw
            case rel => exact ⟨k + 1, by omega, by go_num, by rw [HD.out]; exact ⟨A2, c2, by simp, by simpa using hrow2⟩, Bw.ofRow hbl hg2 (fun x hx => (hrow.lt x hx).1)⟩
            case measure => simp [intOf]; omega
          · have HD := Lib.hid (show dueK ts clock (k + 1) = dueK ts clock k by simp [dueK, hd])
            go_wp2
            go_roundw
            case rel => exact ⟨k + 1, by omega, by go_num, by rw [HD.out]; exact ⟨A', c', rfl, hrow⟩, hbl⟩
            case measure => simp [intOf]; omega
        · go_wp2
          go_ret2
          obtain rfl : k = n := by omega
          rw [HR.out]
          exact ⟨⟨_, _, rfl, hrow⟩, hbl⟩
set_option maxRecDepth 100000 in
theorem c_iDueNumbers (A : Option Addr) (n c : Nat) (ts : List Request) (base clock : Int) (w : World) (hm : n ≤ 9223372036854775807) (h : Rd w A n 4 (ts.map Request.cells)) :
    Calls Try.prog 11 #[.slice A n c, .int .i64 base, .int .i64 clock] w fun e w' => (∃ A' c', e = .returned (.tuple #[.slice A' (dueN ts base clock).length c', .bool (goodR ts base && inR clock 0 9999)]) ∧ Row w' w.heap.size 3 1 icell A' (dueN ts base clock).length c' (dueN ts base clock)) ∧ Bw w w' := by
  have hl := Lib.hid h.requestlen
  cases hg : goodR ts base
  · have HR := Lib.hid (show dueN ts base clock = [] by simp [dueN, hg])
    go_enter Try.func11, Try.ntmps11
    go_wp2_with (go_at_call 12; refine (c_AreRequests _ _ _ ts _ hg _ hm h).mono ?_; rintro e w1 ⟨rfl, hb1⟩)
    go_ret2
    rw [HR.out]
    exact ⟨⟨_, _, rfl, Row.nil _ _ _ _ _⟩, hb1⟩
  · have hn8 : n ≤ 8 := by rw [← hl.out]; exact (goodR_iff.1 hg).2.1
    cases ht : inR clock 0 9999
    · have HR := Lib.hid (show dueN ts base clock = [] by simp [dueN, ht])
      go_enter Try.func11, Try.ntmps11
      go_wp2_with (first | (go_at_call 12; refine (c_AreRequests _ _ _ ts _ hg _ hm h).mono ?_; rintro e w1 ⟨rfl, hb1⟩) | (go_at_call 35; refine (c_isClock _ ht _).mono ?_; rintro e w1 ⟨rfl, rfl⟩))
      go_ret2
      rw [HR.out]
      exact ⟨⟨_, _, rfl, Row.nil _ _ _ _ _⟩, hb1⟩
    · have HR := Lib.hid (show dueN ts base clock = dueK ts clock n by simp [dueN, ht, hg, hl.out])
      have Hg := Lib.hid hg
      clear hg
      go_enter Try.func11, Try.ntmps11
      go_wp2_with (first | (go_at_call 12; refine (c_AreRequests _ _ _ ts _ Hg.out _ hm h).mono ?_; rintro e w1 ⟨rfl, hb1⟩) | (go_at_call 35; refine (c_isClock _ ht _).mono ?_; rintro e w1 ⟨rfl, rfl⟩))
      go_loopw [8, 22] (fun v i wr => ∃ k : Nat, k ≤ n ∧ i = .int .i64 k ∧ (∃ A c, v = .slice A (dueK ts clock k).length c ∧ Row wr w.heap.size 3 1 icell A (dueK ts clock k).length c (dueK ts clock k)) ∧ Bw w wr) (fun _ i _ => n - (intOf i).toNat)
      case atStart => exact ⟨0, Nat.zero_le _, rfl, ⟨_, _, rfl, Row.nil _ _ _ _ _⟩, hb1⟩
      case round =>
        obtain ⟨k, hk, rfl, ⟨A', c', rfl, hrow⟩, hbl⟩ := hrel
        have hdl := dueK_len ts clock k
        by_cases hlt : k < n
        · obtain ⟨b, off, rfl, hb, hc⟩ := (h.keep hbl).request (by omega)
          have hb' : b < wr.heap.size + 1 := by omega
          have ⟨h0, h1, h2, h3⟩ := hc k hlt
          clear hc
          by_cases hd : (requestAt ts k).til ≤ clock
          · have HD := Lib.hid (show dueK ts clock (k + 1) = dueK ts clock k ++ [(requestAt ts k).number] by simp [dueK, hd])
            go_wp2_with (at_builtin; refine append_int rfl _ _ rfl _ _ _ _ rfl (hrow.keep ((Bw.refl _).alloc _)) _ _ rfl ?_ ?_ ?_ ?_; simp; omega; (simp; have := hbl.size; omega); intro A2 c2 w2 hrow2 hg2 hmv2)
            go_roundw
            case rel => exact ⟨k + 1, by omega, by go_num, by rw [HD.out]; exact ⟨A2, c2, by simp, by simpa using hrow2⟩, Bw.ofRow (hbl.alloc _) hg2 (fun x hx => (hrow.lt x hx).1)⟩
            case measure => simp [intOf]; omega
          · have HD := Lib.hid (show dueK ts clock (k + 1) = dueK ts clock k by simp [dueK, hd])
            go_wp2
            go_roundw
            case rel => exact ⟨k + 1, by omega, by go_num, by rw [HD.out]; exact ⟨A', c', rfl, hrow.keep ((Bw.refl _).alloc _)⟩, hbl.alloc _⟩
            case measure => simp [intOf]; omega
        · go_wp2
          go_ret2
          obtain rfl : k = n := by omega
          rw [HR.out]
          exact ⟨⟨_, _, rfl, hrow⟩, hbl⟩
end Go.Proofs.Ytnejeigcdogolaa
