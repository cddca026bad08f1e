
/- NextDue: the program's and the reference's come to one function; the law. -/
import Derived.Test.YtjejfkndiecmaaaT2
namespace Go.Proofs.Ytjejfkndiecmaaa
open Go.RowKit
theorem first_is {ts : List Timer} (ha : ts.Pairwise (fun a b => a.id < b.id)) {p : Nat} (hp : p < ts.length) (h1 : ∀ j, j < ts.length → (tAt ts p).due ≤ (tAt ts j).due) (h2 : ∀ j, j < p → (tAt ts p).due < (tAt ts j).due) :
    tAt ts p = tAt (sortD ts) 0 := by
  have hpm := sortD_perm ha
  have hs := sortD_sorted ha
  cases hq : sortD ts with
  | nil => rw [hq] at hpm; have := hpm.length_eq; simp at this; omega
  | cons f S =>
    rw [hq] at hpm hs
    rw [List.pairwise_cons] at hs
    have e1 : tAt (f :: S) 0 = f := rfl
    rw [e1]
    have hf : f ∈ ts := hpm.mem_iff.1 (List.mem_cons_self ..)
    obtain ⟨q, hq1, hq2⟩ := List.mem_iff_getElem.1 hf
    have hm : tAt ts p ∈ f :: S := hpm.mem_iff.2 (by rw [tAt_lt hp]; exact List.getElem_mem hp)
    rcases List.mem_cons.1 hm with h3 | h3
    · exact h3
    · have h4 := hs.1 _ h3
      have h5 := h1 q hq1
      rw [tAt_lt hq1, hq2] at h5
      unfold ltD at h4
      rcases Nat.lt_trichotomy p q with h6 | rfl | h6
      · have h7 := List.pairwise_iff_getElem.1 ha p q hp hq1 h6
        rw [hq2, ← tAt_lt hp] at h7
        omega
      · rw [tAt_lt hp]; exact hq2
      · have h7 := h2 q h6
        rw [tAt_lt hq1, hq2] at h7
        omega
theorem c_l8First (A : Option Addr) (n c : Nat) (ts : List Timer) (w : World) (hn : n ≤ 1000000) (h0 : 0 < n) (ha : ts.Pairwise (fun a b => a.id < b.id)) (h : Rd w A n 3 (ts.map Timer.cells)) :
    Calls Try.prog 59 #[.slice A n c] w fun e w' => (∃ p : Nat, e = .returned (.int .i64 p) ∧ p < n ∧ tAt ts p = tAt (sortD ts) 0) ∧ Bw w w' := by
  have hl := Lib.hid h.tlen
  have HA := Lib.hid ha
  clear ha
  go_enter Try.func59, Try.ntmps59
  go_wp2
  go_loopw [3, 4] (fun bv iv wr => ∃ (p k : Nat), p < k ∧ k ≤ n ∧ bv = .int .i64 p ∧ iv = .int .i64 k ∧ (∀ j, j < k → (tAt ts p).due ≤ (tAt ts j).due) ∧ (∀ j, j < p → (tAt ts p).due < (tAt ts j).due) ∧ Bw w wr) (fun _ iv _ => n - (intOf iv).toNat)
  case atStart => exact ⟨0, 1, by omega, by omega, rfl, rfl, fun j hj => by rw [show j = 0 by omega]; exact Int.le_refl _, fun j hj => by omega, Bw.refl _⟩
  case round =>
    obtain ⟨p, k, hpk, hk, rfl, rfl, h1, h2, hbl⟩ := hrel
    have H1 := Lib.hid h1
    have H2 := Lib.hid h2
    clear h1 h2
    by_cases hlt : k < n
    · obtain ⟨b, off, rfl, hb, hc⟩ := (h.keep hbl).timer (by omega)
      have hb' : b < wr.heap.size + 1 := by omega
      have ⟨p0, p1, p2⟩ := hc p (by omega)
      have ⟨q0, q1, q2⟩ := hc k (by omega)
      clear hc
      by_cases hd : (tAt ts k).due < (tAt ts p).due
      · go_wp2
        (refine wp_region_ext (by kernel_rfl) (by kernel_rfl) ?_; (repeat (go_big_quiet_step (fail))); (with_reducible refine wpQuiet_nil ?_); intro w2 hb2)
        go_wp2
        go_roundw
        case rel =>
          refine ⟨k, k + 1, by omega, by omega, rfl, by go_num, fun j hj => ?_, fun j hj => ?_, hbl.trans hb2⟩
          · rcases Nat.lt_succ_iff_lt_or_eq.1 hj with h3 | rfl
            · have := H1.out j h3; omega
            · exact Int.le_refl _
          · have := H1.out j hj; omega
        case measure => simp [intOf]; omega
      · go_wp2
        (refine wp_region_ext (by kernel_rfl) (by kernel_rfl) ?_; (repeat (go_big_quiet_step (fail))); (with_reducible refine wpQuiet_nil ?_); intro w2 hb2)
        go_wp2
        go_roundw
        case rel =>
          refine ⟨p, k + 1, by omega, by omega, rfl, by go_num, fun j hj => ?_, H2.out, hbl.trans hb2⟩
          rcases Nat.lt_succ_iff_lt_or_eq.1 hj with h3 | rfl
          · exact H1.out j h3
          · omega
        case measure => simp [intOf]; omega
    · go_wp2
      go_ret
      obtain rfl : k = n := by omega
      exact ⟨⟨p, rfl, by omega, first_is HA.out (by rw [hl.out]; omega) (by rw [hl.out]; exact H1.out) H2.out⟩, hbl⟩
def nextC (ts : List Timer) : Bool := goodT ts && decide (0 < ts.length)
def nextT (ts : List Timer) : Timer := if nextC ts then tAt (sortD ts) 0 else ⟨0, 0, 0⟩
theorem c_sNextDue (A : Option Addr) (n c : Nat) (ts : List Timer) {d i : Int} {r : Bool} (hd : (nextT ts).due = d) (hi : (nextT ts).id = i) (hr : nextC ts = r) (w : World) (hn : n ≤ 9223372036854775807) (h : Rd w A n 3 (ts.map Timer.cells)) :
    Calls Try.prog 32 #[.slice A n c] w fun e w' => e = .returned (.tuple #[.int .i64 d, .int .i64 i, .bool r]) ∧ Bw w w' := by
  have hl := Lib.hid h.tlen
  cases hg : goodT ts
  · have HR := Lib.hid (show d = 0 ∧ i = 0 ∧ r = false by rw [← hd, ← hi, ← hr]; simp [nextT, nextC, hg])
    clear hd hi hr
    go_enter Try.func32, Try.ntmps32
    go_wp2_with (first | (go_at_call 41; refine (c_l8Good _ _ _ ts hg _ hn h).mono ?_; rintro e w1 ⟨rfl, hb1⟩))
    go_ret3
    rw [HR.out.1, HR.out.2.1, HR.out.2.2]
    exact ⟨rfl, hb1⟩
  · have HA := Lib.hid (goodT_asc hg)
    have hn10 : n ≤ 100 := by have := (goodT_iff.1 hg).2; rw [hl.out] at this; omega
    by_cases h0 : n = 0
    · subst h0
      have HR := Lib.hid (show d = 0 ∧ i = 0 ∧ r = false by rw [← hd, ← hi, ← hr]; simp [nextT, nextC, hl.out])
      have Hg := Lib.hid hg
      clear hd hi hr hg
      go_enter Try.func32, Try.ntmps32
      go_wp2_with (first | (go_at_call 41; refine (c_l8Good _ _ _ ts Hg.out _ hn h).mono ?_; rintro e w1 ⟨rfl, hb1⟩))
      go_ret3
      rw [HR.out.1, HR.out.2.1, HR.out.2.2]
      exact ⟨rfl, hb1⟩
    · have h0' : 0 < n := by omega
      have HR := Lib.hid (show d = (tAt (sortD ts) 0).due ∧ i = (tAt (sortD ts) 0).id ∧ r = true by
        have hc : nextC ts = true := by simp [nextC, hg, hl.out]; omega
        rw [← hd, ← hi, ← hr]; simp [nextT, hc])
      have Hg := Lib.hid hg
      clear hd hi hr hg
      have hne : ¬ ((n : Int) = 0) := by omega
      go_enter Try.func32, Try.ntmps32
      go_wp2_with (first | (go_at_call 41; refine (c_l8Good _ _ _ ts Hg.out _ hn h).mono ?_; rintro e w1 ⟨rfl, hb1⟩))
      refine (c_l8First _ _ _ ts _ (by omega) h0' HA.out (h.keep hb1)).mono ?_
      rintro e w2 ⟨⟨p, rfl, hp, hpt⟩, hb2⟩
      have hb12 := hb1.trans hb2
      have HP := Lib.hid hpt
      obtain ⟨b, off, rfl, hb, hc⟩ := (h.keep hb12).timer (by omega)
      have ⟨p0, p1, p2⟩ := hc p hp
      rw [HP.out] at p0 p1 p2
      clear hc hpt
      go_wp2_with fail
      (refine wp_region_ext (by kernel_rfl) (by kernel_rfl) ?_; (repeat (go_big_quiet_step (fail))); (with_reducible refine wpQuiet_nil ?_); intro w2 hb2)
      go_wp2
      go_ret3
      rw [HR.out.1, HR.out.2.1, HR.out.2.2]
      exact ⟨rfl, Bw.trans hb12 ((Bw.alloc (Bw.refl _) _).trans hb2)⟩
theorem c_iNextDue (A : Option Addr) (n c : Nat) (ts : List Timer) {d i : Int} {r : Bool} (hd : (nextT ts).due = d) (hi : (nextT ts).id = i) (hr : nextC ts = r) (w : World) (hn : n ≤ 9223372036854775807) (h : Rd w A n 3 (ts.map Timer.cells)) :
    Calls Try.prog 31 #[.slice A n c] w fun e w' => e = .returned (.tuple #[.int .i64 d, .int .i64 i, .bool r]) ∧ Bw w w' := by
  have hl := Lib.hid h.tlen
  cases hg : goodT ts
  · have HR := Lib.hid (show d = 0 ∧ i = 0 ∧ r = false by rw [← hd, ← hi, ← hr]; simp [nextT, nextC, hg])
    clear hd hi hr
    go_enter Try.func31, Try.ntmps31
    go_wp2_with (go_at_call 11; refine (c_IsValidTimers _ _ _ ts hg _ hn h).mono ?_; rintro e w1 ⟨rfl, hb1⟩)
    go_ret3
    rw [HR.out.1, HR.out.2.1, HR.out.2.2]
    exact ⟨rfl, hb1⟩
  · have HA := Lib.hid (goodT_asc hg)
    have hn10 : n ≤ 10 := by have := (goodT_iff.1 hg).2; rw [hl.out] at this; omega
    by_cases h0 : n = 0
    · subst h0
      have HR := Lib.hid (show d = 0 ∧ i = 0 ∧ r = false by rw [← hd, ← hi, ← hr]; simp [nextT, nextC, hl.out])
      have Hg := Lib.hid hg
      clear hd hi hr hg
      go_enter Try.func31, Try.ntmps31
      go_wp2_with (go_at_call 11; refine (c_IsValidTimers _ _ _ ts Hg.out _ hn h).mono ?_; rintro e w1 ⟨rfl, hb1⟩)
      go_ret3
      rw [HR.out.1, HR.out.2.1, HR.out.2.2]
      exact ⟨rfl, hb1⟩
    · have h0' : 0 < n := by omega
      have HR := Lib.hid (show d = (tAt (sortD ts) 0).due ∧ i = (tAt (sortD ts) 0).id ∧ r = true by
        have hc : nextC ts = true := by simp [nextC, hg, hl.out]; omega
        rw [← hd, ← hi, ← hr]; simp [nextT, hc])
      have Hg := Lib.hid hg
      clear hd hi hr hg
      have hne : ¬ ((n : Int) = 0) := by omega
      go_enter Try.func31, Try.ntmps31
      go_wp2_with (go_at_call 11; refine (c_IsValidTimers _ _ _ ts Hg.out _ hn h).mono ?_; rintro e w1 ⟨rfl, hb1⟩)
      refine (c_byDue _ _ _ ts _ (by omega) HA.out (h.keep hb1)).mono ?_
      rintro e w2 ⟨⟨A2, c2, rfl, row2⟩, hb2⟩
      have hb12 := hb1.trans hb2
      obtain ⟨g, rfl, hlo, hgl, hfz, hcc⟩ := row2.timer (by omega)
      have ⟨p0, p1, p2⟩ := hcc 0 (by omega)
      clear hcc
      rw [Nat.zero_mul] at p0 p1 p2
      go_wp2_with fail
      (refine wp_region_ext (by kernel_rfl) (by kernel_rfl) ?_; (repeat (go_big_quiet_step (fail))); (with_reducible refine wpQuiet_nil ?_); intro w2 hb2)
      go_wp2
      go_ret3
      rw [HR.out.1, HR.out.2.1, HR.out.2.2]
      exact ⟨rfl, Bw.trans hb12 ((Bw.alloc (Bw.refl _) _).trans hb2)⟩
end Go.Proofs.Ytjejfkndiecmaaa
