
/- FireTimer: both sides. -/
import Derived.Test.YtjejfkndiecmaaaT6
namespace Go.Proofs.Ytjejfkndiecmaaa
open Go.RowKit
theorem c_sFireTimer (A : Option Addr) (n c : Nat) (ts : List Timer) (id : Int) (w : World) (hn : n ≤ 9223372036854775807) (h : Rd w A n 3 (ts.map Timer.cells)) :
    Calls Try.prog 14 #[.slice A n c, .int .i64 id] w fun e w' => (∃ A' c', e = .returned (.tuple #[.slice A' (fireR ts id).length c', .bool (stopB ts id)]) ∧ Row w' w.heap.size 26 3 Timer.cells A' (fireR ts id).length c' (fireR ts id)) ∧ Bw w w' := by
  have hl := Lib.hid h.tlen
  rcases search_ways ts id with hg | ⟨hg, hf, hr⟩ | ⟨hg, k, hk, hp, hi, hf, hid, hr⟩
  · have HR := Lib.hid (show fireR ts id = [] ∧ stopB ts id = false by simp [fireR, stopB, hg])
    have Hg := Lib.hid hg
    clear hg
    go_enter Try.func14, Try.ntmps14
    go_wp2_with (first | (go_at_call 41; refine (c_l8Good _ _ _ ts Hg.out _ hn h).mono ?_; rintro e w1 ⟨rfl, hb1⟩) | (go_at_call 46; refine (c_l8Find _ _ _ ts id rfl _ hn h).mono ?_; rintro e w1 ⟨rfl, rfl⟩))
    go_ret2
    rw [HR.out.1, HR.out.2]
    exact ⟨⟨_, _, rfl, (Row.empty w1 _ _ _ _ hb1.size)⟩, hb1.alloc _⟩
  · have HR := Lib.hid (show fireR ts id = [] ∧ stopB ts id = false by simp [fireR, stopB, hf])
    have Hg := Lib.hid hg
    have Hf := Lib.hid hf
    clear hg hf hr
    go_enter Try.func14, Try.ntmps14
    go_wp2_with (first | (go_at_call 41; refine (c_l8Good _ _ _ ts Hg.out _ hn h).mono ?_; rintro e w1 ⟨rfl, hb1⟩) | (go_at_call 46; refine (c_l8Find _ _ _ ts id Hf.out _ hn h).mono ?_; rintro e w1 ⟨rfl, rfl⟩))
    go_ret2
    rw [HR.out.1, HR.out.2]
    exact ⟨⟨_, _, rfl, (Row.empty w1 _ _ _ _ hb1.size)⟩, hb1.alloc _⟩
  · have HR := Lib.hid (show fireR ts id = fireT ts k ∧ stopB ts id = true by simp [fireR, stopB, hg, hf, hi])
    have Hg := Lib.hid hg
    have Hf := Lib.hid hf
    clear hg hf hr hp hi hid
    go_enter Try.func14, Try.ntmps14
    go_wp2_with (first | (go_at_call 41; refine (c_l8Good _ _ _ ts Hg.out _ hn h).mono ?_; rintro e w1 ⟨rfl, hb1⟩) | (go_at_call 46; refine (c_l8Find _ _ _ ts id Hf.out _ hn h).mono ?_; rintro e w1 ⟨rfl, rfl⟩))
    refine (c_l8Fire _ _ _ ts k Hg.out hk _ (h.keep hb1)).mono ?_
    rintro e w3 ⟨⟨A3, c3, rfl, row3⟩, hb3⟩
    go_wp2_with fail
    go_ret2
    rw [HR.out.1, HR.out.2]
    exact ⟨⟨_, _, rfl, row3.mono hb1.size⟩, hb1.trans hb3⟩
theorem c_iFireTimer (A : Option Addr) (n c : Nat) (ts : List Timer) (id : Int) (w : World) (hn : n ≤ 9223372036854775807) (h : Rd w A n 3 (ts.map Timer.cells)) :
    Calls Try.prog 13 #[.slice A n c, .int .i64 id] w fun e w' => (∃ A' c', e = .returned (.tuple #[.slice A' (fireR ts id).length c', .bool (stopB ts id)]) ∧ Row w' w.heap.size 26 3 Timer.cells A' (fireR ts id).length c' (fireR ts id)) ∧ Bw w w' := by
  have hl := Lib.hid h.tlen
  rcases search_ways ts id with hg | ⟨hg, hf, hr⟩ | ⟨hg, k, hk, hp, hi, hf, hid, hr⟩
  · have HR := Lib.hid (show fireR ts id = [] ∧ stopB ts id = false by simp [fireR, stopB, hg])
    have Hg := Lib.hid hg
    clear hg
    go_enter Try.func13, Try.ntmps13
    go_wp2_with (first | (go_at_call 43; refine (c_hasNot _ _ _ ts id Hg.out _ hn h).mono ?_; rintro e w1 ⟨rfl, hb1⟩))
    go_ret2
    rw [HR.out.1, HR.out.2]
    exact ⟨⟨_, _, rfl, Row.nil _ _ _ _ _⟩, hb1⟩
  · have HR := Lib.hid (show fireR ts id = [] ∧ stopB ts id = false by simp [fireR, stopB, hf])
    have Hg := Lib.hid hg
    generalize hp : posT ts id = p at hr
    rw [hl.out] at hr
    have Hp := Lib.hid hp
    have Hr := Lib.hid hr
    clear hg hf hr hp
    go_enter Try.func13, Try.ntmps13
    go_wp2_with (first | (go_at_call 43; refine (c_hasTimer _ _ _ ts id Hg.out Hp.out (r := false) Hr.out _ h).mono ?_; rintro e w1 ⟨rfl, hb1⟩; have hr1 := hb1.rule))
    go_ret2
    rw [HR.out.1, HR.out.2]
    exact ⟨⟨_, _, rfl, Row.nil _ _ _ _ _⟩, hb1⟩
  · have HR := Lib.hid (show fireR ts id = fireT ts k ∧ stopB ts id = true by simp [fireR, stopB, hg, hf, hi])
    have hn10 : n ≤ 10 := by have := (goodT_iff.1 hg).2; rw [hl.out] at this; omega
    rw [hl.out] at hr
    have Hr := Lib.hid hr
    have Hp := Lib.hid hp
    have Hg := Lib.hid hg
    clear hg hf hr hp hi hid
    go_enter Try.func13, Try.ntmps13
    go_wp2_with (first | (go_at_call 43; refine (c_hasTimer _ _ _ ts id Hg.out Hp.out (r := true) Hr.out _ h).mono ?_; rintro e w1 ⟨rfl, hb1⟩; have hr1 := hb1.rule))
    refine (c_CloneTimer _ _ _ ts _ (by omega) (h.keep hb1)).mono ?_
    rintro e w2 ⟨⟨A2, c2, rfl, row2⟩, hb2⟩
    have lt2 := row2.lt
    go_wp2_with fail
    refine (c_fire _ _ _ ts k _ Hg.out hk _ row2).mono ?_
    rintro e w3 ⟨rfl, row3, hg3⟩
    go_wp2_with fail
    go_ret2
    rw [HR.out.1, HR.out.2]
    exact ⟨⟨_, _, rfl, row3.mono hb1.size⟩, Bw.ofRow (hb1.trans hb2) hg3 (fun x hx => Nat.le_trans hb1.size (lt2 x hx).1)⟩
end Go.Proofs.Ytjejfkndiecmaaa
