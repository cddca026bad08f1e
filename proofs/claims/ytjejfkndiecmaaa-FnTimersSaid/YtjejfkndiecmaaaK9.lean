
/- TicksUntil: the program's and the reference's come to one function. -/
import Derived.Test.YtjejfkndiecmaaaK8
namespace Go.Proofs.Ytjejfkndiecmaaa
open Go.RowKit
theorem c_hasNot (A : Option Addr) (n c : Nat) (ts : List Timer) (id : Int) (hg : goodT ts = false) (w : World) (hm : n ≤ 9223372036854775807) (h : Rd w A n 3 (ts.map Timer.cells)) :
    Calls Try.prog 43 #[.slice A n c, .int .i64 id] w fun e w' => e = .returned (.tuple #[.int .i64 0, .bool false]) ∧ Bw w w' := by
  have Hg := Lib.hid hg
  clear hg
  go_enter Try.func43, Try.ntmps43
  go_wp2_with (go_at_call 11; refine (c_IsValidTimers _ _ _ ts Hg.out _ hm h).mono ?_; rintro e w1 ⟨rfl, hb1⟩)
  go_ret2
  exact ⟨rfl, hb1⟩
theorem c_hasTimer (A : Option Addr) (n c : Nat) (ts : List Timer) (id : Int) (hg : goodT ts = true) {p : Nat} (hp : posT ts id = p) {r : Bool} (hr : (decide (p < n) && decide ((tAt ts p).id = id)) = r) (w : World) (h : Rd w A n 3 (ts.map Timer.cells)) :
    Calls Try.prog 43 #[.slice A n c, .int .i64 id] w fun e w' => e = .returned (.tuple #[.int .i64 p, .bool r]) ∧ Bw w w' := by
  have hl := h.tlen
  have hn : n ≤ 9223372036854775807 := by have := (goodT_iff.1 hg).2; omega
  have Hg := Lib.hid hg
  have Hr := Lib.hid hr
  have Hp := Lib.hid hp
  clear hg hl hr hp
  go_enter Try.func43, Try.ntmps43
  go_wp2_with (go_at_call 11; refine (c_IsValidTimers _ _ _ ts Hg.out _ hn h).mono ?_; rintro e w1 ⟨rfl, hb1⟩)
  refine (c_findTimer _ _ _ ts id Hg.out Hp.out Hr.out _ (h.keep hb1)).mono ?_
  rintro e w2 ⟨rfl, hb2⟩
  go_wp2_with fail
  go_ret2
  exact ⟨rfl, hb1.trans hb2⟩
/-- The three ways of a search: the list is not valid; there is no such timer; the k-th is it. -/
theorem search_ways (ts : List Timer) (id : Int) : goodT ts = false ∨ (goodT ts = true ∧ findI ts id = -1 ∧ (decide (posT ts id < ts.length) && decide ((tAt ts (posT ts id)).id = id)) = false) ∨
    (goodT ts = true ∧ ∃ k, k < ts.length ∧ posT ts id = k ∧ idxT ts id = k ∧ findI ts id = (k : Int) ∧ (tAt ts k).id = id ∧ (decide (k < ts.length) && decide ((tAt ts k).id = id)) = true) := by
  cases hg : goodT ts
  · exact .inl rfl
  · right
    by_cases h : posT ts id < ts.length ∧ (tAt ts (posT ts id)).id = id
    · right
      have h1 := posT_found h.1 h.2
      exact ⟨rfl, posT ts id, h.1, rfl, h1, by simp [findI, h1, h.1], h.2, by simp [h.1, h.2]⟩
    · left
      have h1 := posT_none hg h
      refine ⟨rfl, by simp [findI, h1], ?_⟩
      rw [Bool.and_eq_false_iff]
      simp only [decide_eq_false_iff_not]
      by_cases h2 : posT ts id < ts.length
      · exact .inr (fun h3 => h ⟨h2, h3⟩)
      · exact .inl h2
def ticksUntil (ts : List Timer) (id now : Int) : Int × Bool :=
  if goodT ts = true ∧ 0 ≤ findI ts id ∧ inR now 0 10000 = true then (max 0 ((tAt ts (idxT ts id)).due - now), true) else (0, false)
theorem c_sTicksUntil (A : Option Addr) (n c : Nat) (ts : List Timer) (id now : Int) (w : World) (hn : n ≤ 9223372036854775807) (h : Rd w A n 3 (ts.map Timer.cells)) :
    Calls Try.prog 19 #[.slice A n c, .int .i64 id, .int .i64 now] w fun e w' => e = .returned (.tuple #[.int .i64 (ticksUntil ts id now).1, .bool (ticksUntil ts id now).2]) ∧ Bw w w' := by
  have hl := Lib.hid h.tlen
  rcases search_ways ts id with hg | ⟨hg, hf, hr⟩ | ⟨hg, k, hk, hp, hi, hf, hid, hr⟩
  · have HR := Lib.hid (show ticksUntil ts id now = (0, false) by simp [ticksUntil, hg])
    have Hg := Lib.hid hg
    clear hg
    go_enter Try.func19, Try.ntmps19
    go_wp2_with (first | (go_at_call 46; refine (c_l8Find _ _ _ ts id rfl _ hn h).mono ?_; rintro e w1 ⟨rfl, rfl⟩) | (go_at_call 41; refine (c_l8Good _ _ _ ts Hg.out _ hn h).mono ?_; rintro e w1 ⟨rfl, hb1⟩))
    go_ret2
    exact ⟨by rw [HR.out]; rfl, hb1⟩
  · have HR := Lib.hid (show ticksUntil ts id now = (0, false) by simp [ticksUntil, hf])
    have Hg := Lib.hid hg
    have Hf := Lib.hid hf
    clear hg hf hr
    go_enter Try.func19, Try.ntmps19
    go_wp2_with (first | (go_at_call 46; refine (c_l8Find _ _ _ ts id Hf.out _ hn h).mono ?_; rintro e w1 ⟨rfl, rfl⟩) | (go_at_call 41; refine (c_l8Good _ _ _ ts Hg.out _ hn h).mono ?_; rintro e w1 ⟨rfl, hb1⟩))
    go_ret2
    exact ⟨by rw [HR.out]; rfl, hb1⟩
  · cases ht : inR now 0 10000
    · have HR := Lib.hid (show ticksUntil ts id now = (0, false) by simp [ticksUntil, ht])
      have Hg := Lib.hid hg
      have Hf := Lib.hid hf
      clear hg hf hr hp hi hid
      go_enter Try.func19, Try.ntmps19
      go_wp2_with (first | (go_at_call 46; refine (c_l8Find _ _ _ ts id Hf.out _ hn h).mono ?_; rintro e w1 ⟨rfl, rfl⟩) | (go_at_call 41; refine (c_l8Good _ _ _ ts Hg.out _ hn h).mono ?_; rintro e w1 ⟨rfl, hb1⟩) | (go_at_call 55; refine (c_l8Tick _ ht _).mono ?_; rintro e w1 ⟨rfl, rfl⟩))
      go_ret2
      exact ⟨by rw [HR.out]; rfl, hb1⟩
    · have HR := Lib.hid (show ticksUntil ts id now = (max 0 ((tAt ts k).due - now), true) by simp [ticksUntil, ht, hg, hf, hi])
      have ⟨_, ⟨_, _⟩, _⟩ := goodT_bd hg hk
      have ⟨_, _⟩ := inR_iff.1 ht
      have hkn : k < n := by rw [← hl.out]; exact hk
      have Hg := Lib.hid hg
      have Hf := Lib.hid hf
      clear hg hf hr hp hi hid
      obtain ⟨b, off, rfl, hb, hc⟩ := h.timer (by omega)
      have ⟨h0, h1, h2⟩ := hc k hkn
      clear hc
      go_enter Try.func19, Try.ntmps19
      go_wp2_with (first | (go_at_call 46; refine (c_l8Find _ _ _ ts id Hf.out _ hn h).mono ?_; rintro e w1 ⟨rfl, rfl⟩) | (go_at_call 41; refine (c_l8Good _ _ _ ts Hg.out _ hn h).mono ?_; rintro e w1 ⟨rfl, hb1⟩; have hr1 := hb1.rule) | (go_at_call 55; refine (c_l8Tick _ ht _).mono ?_; rintro e w1 ⟨rfl, rfl⟩) | (go_at_call 56; refine (c_l1Most _ _ rfl _).mono ?_; rintro e w1 ⟨rfl, rfl⟩))
      go_ret2
      exact ⟨by rw [HR.out]; rfl, hb1⟩
theorem c_iTicksUntil (A : Option Addr) (n c : Nat) (ts : List Timer) (id now : Int) (w : World) (hn : n ≤ 9223372036854775807) (h : Rd w A n 3 (ts.map Timer.cells)) :
    Calls Try.prog 10 #[.slice A n c, .int .i64 id, .int .i64 now] w fun e w' => e = .returned (.tuple #[.int .i64 (ticksUntil ts id now).1, .bool (ticksUntil ts id now).2]) ∧ Bw w w' := by
  have hl := Lib.hid h.tlen
  rcases search_ways ts id with hg | ⟨hg, hf, hr⟩ | ⟨hg, k, hk, hp, hi, hf, hid, hr⟩
  · have HR := Lib.hid (show ticksUntil ts id now = (0, false) by simp [ticksUntil, hg])
    have Hg := Lib.hid hg
    clear hg
    go_enter Try.func10, Try.ntmps10
    go_wp2_with (first | (go_at_call 43; refine (c_hasNot _ _ _ ts id Hg.out _ hn h).mono ?_; rintro e w1 ⟨rfl, hb1⟩))
    go_ret2
    exact ⟨by rw [HR.out]; rfl, hb1⟩
  · have HR := Lib.hid (show ticksUntil ts id now = (0, false) by simp [ticksUntil, hf])
    have Hg := Lib.hid hg
    generalize hp : posT ts id = p at hr
    rw [hl.out] at hr
    have Hp := Lib.hid hp
    have Hr := Lib.hid hr
    clear hg hf hr hp
    go_enter Try.func10, Try.ntmps10
    go_wp2_with (first | (go_at_call 43; refine (c_hasTimer _ _ _ ts id Hg.out Hp.out (r := false) Hr.out _ h).mono ?_; rintro e w1 ⟨rfl, hb1⟩; have hr1 := hb1.rule))
    go_ret2
    exact ⟨by rw [HR.out]; rfl, hb1⟩
  · rw [hl.out] at hr
    have Hr := Lib.hid hr
    have Hp := Lib.hid hp
    have Hg := Lib.hid hg
    cases ht : inR now 0 10000
    · have HR := Lib.hid (show ticksUntil ts id now = (0, false) by simp [ticksUntil, ht])
      clear hg hf hr hp hi hid
      go_enter Try.func10, Try.ntmps10
      go_wp2_with (first | (go_at_call 43; refine (c_hasTimer _ _ _ ts id Hg.out Hp.out (r := true) Hr.out _ h).mono ?_; rintro e w1 ⟨rfl, hb1⟩; have hr1 := hb1.rule) | (go_at_call 44; refine (c_isTick _ ht _).mono ?_; rintro e w1 ⟨rfl, rfl⟩))
      go_ret2
      exact ⟨by rw [HR.out]; rfl, hb1⟩
    · have HR := Lib.hid (show ticksUntil ts id now = (max 0 ((tAt ts k).due - now), true) by simp [ticksUntil, ht, hg, hf, hi])
      have ⟨_, ⟨_, _⟩, _⟩ := goodT_bd hg hk
      have ⟨_, _⟩ := inR_iff.1 ht
      have hkn : k < n := by rw [← hl.out]; exact hk
      clear hg hf hr hp hi hid
      obtain ⟨b, off, rfl, hb, hc⟩ := h.timer (by omega)
      have ⟨h0, h1, h2⟩ := hc k hkn
      clear hc
      go_enter Try.func10, Try.ntmps10
      go_wp2_with (first | (go_at_call 43; refine (c_hasTimer _ _ _ ts id Hg.out Hp.out (r := true) Hr.out _ h).mono ?_; rintro e w1 ⟨rfl, hb1⟩; have hr1 := hb1.rule) | (go_at_call 44; refine (c_isTick _ ht _).mono ?_; rintro e w1 ⟨rfl, rfl⟩))
      all_goals
        go_ret2
        exact ⟨by rw [HR.out]; simp; omega, hb1⟩
end Go.Proofs.Ytjejfkndiecmaaa
