
/- AddRequest: both sides. -/
import Derived.Test.YtnejeigcdogolaaR12
namespace Go.Proofs.Ytnejeigcdogolaa
open Go.RowKit
theorem add_ways (ts : List Request) (base number clock delay : Int) : goodR ts base = false ∨ (goodR ts base = true ∧ inR number 0 65535 = false) ∨ (goodR ts base = true ∧ inR number 0 65535 = true ∧ inR clock 0 9999 = false) ∨ (goodR ts base = true ∧ inR number 0 65535 = true ∧ inR clock 0 9999 = true ∧ inR delay 1 8 = false) ∨ (goodR ts base = true ∧ inR number 0 65535 = true ∧ inR clock 0 9999 = true ∧ inR delay 1 8 = true) := by
  cases goodR ts base <;> cases inR number 0 65535 <;> cases inR clock 0 9999 <;> cases inR delay 1 8 <;> simp
set_option maxRecDepth 100000 in
theorem c_l12AddNo (A : Option Addr) (n c : Nat) (ts : List Request) (base number clock delay : Int) (hok : ∀ j, j < ts.length → 0 ≤ (requestAt ts j).number ∧ (requestAt ts j).number ≤ 65535) (b0 : 0 ≤ base) (b1 : base ≤ 65535) (n0 : 0 ≤ number) (n1 : number ≤ 65535)
    (w : World) (hn : n ≤ 100) (h : Rd w A n 4 (ts.map Request.cells)) (hq : hasR ts base number = true ∨ (hasR ts base number = false ∧ 8 ≤ gapI base number)) :
    Calls Try.prog 56 #[.slice A n c, .int .i64 base, .int .i64 number, .int .i64 clock, .int .i64 delay] w fun e w' => (∃ A' c', e = .returned (.slice A' n c')) ∧ Bw w w' := by
  have hl := Lib.hid h.requestlen
  have Hok := Lib.hid hok
  obtain ⟨i0, hi, hz0, hz1, hz2⟩ := info_parts infoRequest
  have Hi := Lib.hid hi
  have Hz0 := Lib.hid hz0
  have Hz1 := Lib.hid hz1
  have Hz2 := Lib.hid hz2
  clear hok hi hz0 hz1 hz2
  have Hr2 := Lib.hid (show (decide (posR ts base number < n) && decide ((requestAt ts (posR ts base number)).number = number)) = hasR ts base number by unfold hasR; rw [hl.out])
  generalize hp : posR ts base number = p at *
  have HQ := Lib.hid hp
  rcases hq with hq | ⟨hq, hg8⟩
  · rw [hq] at Hr2
    clear hp hq
    go_enter Try.func56, Try.ntmps56
    go_wp2_with fail
    refine (c_l12Place _ _ _ ts base number Hok.out b0 b1 n0 n1 HQ.out Hr2.out _ hn h).mono ?_
    rintro e w1 ⟨rfl, hb1⟩
    go_wp2_with (at_builtin; refine wpList_append_rd (enc := Request.cells) rfl _ _ 24 rfl w1.heap.size 37 i0 _ 4 32 Try.underlying24 Hi.out Hz0.out Hz1.out Hz2.out rfl (by decide) (fun _ => rfl) ?_ _ _ _ _ rfl (Row.empty w1 w1.heap.size _ _ _ (Nat.le_refl _)) _ n _ ts rfl ((h.keep hb1).keep (Bw.alloc (Bw.refl _) _)) ?_ ?_ ?_ ?_; exact oneRequest; (unfold maxLen; omega); omega; simp; intro A2 c2 w2 hrow2 hg2 hmv2 hnn2)
    go_ret
    exact ⟨⟨A2, c2, by simp⟩, Bw.ofRow (hb1.alloc _) hg2 (fun x hx => by simp at hx; subst hx; exact hb1.size)⟩
  · rw [hq] at Hr2
    clear hp hq
    go_enter Try.func56, Try.ntmps56
    go_wp2_with fail
    refine (c_l12Place _ _ _ ts base number Hok.out b0 b1 n0 n1 HQ.out Hr2.out _ hn h).mono ?_
    rintro e w1 ⟨rfl, hb1⟩
    go_wp2_with (first | (go_at_call 64; refine (c_l2Gap _ _ rfl b0 b1 n0 n1 _).mono ?_; rintro e w2 ⟨rfl, rfl⟩) | (at_builtin; refine wpList_append_rd (enc := Request.cells) rfl _ _ 24 rfl w1.heap.size 37 i0 _ 4 32 Try.underlying24 Hi.out Hz0.out Hz1.out Hz2.out rfl (by decide) (fun _ => rfl) ?_ _ _ _ _ rfl (Row.empty w1 w1.heap.size _ _ _ (Nat.le_refl _)) _ n _ ts rfl ((h.keep hb1).keep (Bw.alloc (Bw.refl _) _)) ?_ ?_ ?_ ?_; exact oneRequest; (unfold maxLen; omega); omega; simp; intro A2 c2 w2 hrow2 hg2 hmv2 hnn2))
    go_ret
    exact ⟨⟨A2, c2, by simp⟩, Bw.ofRow (hb1.alloc _) hg2 (fun x hx => by simp at hx; subst hx; exact hb1.size)⟩
set_option maxRecDepth 100000 in
theorem c_sAddRequest (A : Option Addr) (n c : Nat) (ts : List Request) (base number clock delay : Int) (hnc : n ≤ c) (w : World) (hn : n ≤ 9223372036854775807) (h : Rd w A n 4 (ts.map Request.cells)) :
    Calls Try.prog 24 #[.slice A n c, .int .i64 base, .int .i64 number, .int .i64 clock, .int .i64 delay] w fun e w' => (∃ A' c', e = .returned (.tuple #[.slice A' (addR ts base number clock delay).length c', .bool (addB ts base number clock delay)]) ∧ Row w' w.heap.size 37 4 Request.cells A' (addR ts base number clock delay).length c' (addR ts base number clock delay)) ∧ Bw w w' := by
  have hl := Lib.hid h.requestlen
  rcases add_ways ts base number clock delay with hg | ⟨hg, ht⟩ | ⟨hg, ht, hk⟩ | ⟨hg, ht, hk, hd⟩ | ⟨hg, ht, hk, hd⟩
  all_goals have Hg := Lib.hid hg
  · have HR := Lib.hid (show addR ts base number clock delay = [] ∧ addB ts base number clock delay = false by simp [addR, addB, addC, *])
    go_enter Try.func24, Try.ntmps24
    go_wp2_with (first | (go_at_call 38; refine (c_l12Good _ _ _ ts _ Hg.out _ hn h).mono ?_; rintro e w1 ⟨rfl, hb1⟩))
    go_ret2
    rw [HR.out.1, HR.out.2]
    exact ⟨⟨_, _, rfl, Row.empty w1 _ _ _ _ hb1.size⟩, hb1.alloc _⟩
  · have HR := Lib.hid (show addR ts base number clock delay = [] ∧ addB ts base number clock delay = false by simp [addR, addB, addC, *])
    go_enter Try.func24, Try.ntmps24
    go_wp2_with (first | (go_at_call 38; refine (c_l12Good _ _ _ ts _ Hg.out _ hn h).mono ?_; rintro e w1 ⟨rfl, hb1⟩) | (go_at_call 45; refine (c_l2Good _ ht _).mono ?_; rintro e w2 ⟨rfl, rfl⟩))
    go_ret2
    rw [HR.out.1, HR.out.2]
    exact ⟨⟨_, _, rfl, Row.empty w1 _ _ _ _ hb1.size⟩, hb1.alloc _⟩
  · have HR := Lib.hid (show addR ts base number clock delay = [] ∧ addB ts base number clock delay = false by simp [addR, addB, addC, *])
    go_enter Try.func24, Try.ntmps24
    go_wp2_with (first | (go_at_call 38; refine (c_l12Good _ _ _ ts _ Hg.out _ hn h).mono ?_; rintro e w1 ⟨rfl, hb1⟩) | (go_at_call 45; refine (c_l2Good _ ht _).mono ?_; rintro e w2 ⟨rfl, rfl⟩) | (go_at_call 39; refine (c_l11Clock _ hk _).mono ?_; rintro e w2 ⟨rfl, rfl⟩))
    go_ret2
    rw [HR.out.1, HR.out.2]
    exact ⟨⟨_, _, rfl, Row.empty w1 _ _ _ _ hb1.size⟩, hb1.alloc _⟩
  · have HR := Lib.hid (show addR ts base number clock delay = [] ∧ addB ts base number clock delay = false by simp [addR, addB, addC, *])
    go_enter Try.func24, Try.ntmps24
    go_wp2_with (first | (go_at_call 38; refine (c_l12Good _ _ _ ts _ Hg.out _ hn h).mono ?_; rintro e w1 ⟨rfl, hb1⟩) | (go_at_call 45; refine (c_l2Good _ ht _).mono ?_; rintro e w2 ⟨rfl, rfl⟩) | (go_at_call 39; refine (c_l11Clock _ hk _).mono ?_; rintro e w2 ⟨rfl, rfl⟩) | (go_at_call 40; refine (c_l12Delay _ hd _).mono ?_; rintro e w2 ⟨rfl, rfl⟩))
    go_ret2
    rw [HR.out.1, HR.out.2]
    exact ⟨⟨_, _, rfl, Row.empty w1 _ _ _ _ hb1.size⟩, hb1.alloc _⟩
  · have ⟨x0, x1⟩ := inR_iff.1 ht
    have ⟨y0, y1⟩ := inR_iff.1 hk
    have ⟨z0, z1⟩ := inR_iff.1 hd
    have ⟨b0, b1⟩ := goodR_base hg
    have hn8 : n ≤ 8 := by rw [← hl.out]; exact (goodR_iff.1 hg).2.1
    have Hok := Lib.hid (show ∀ j, j < ts.length → 0 ≤ (requestAt ts j).number ∧ (requestAt ts j).number ≤ 65535 from fun j hj => (goodR_bd hg hj).1)
    by_cases hq : hasR ts base number = true ∨ (hasR ts base number = false ∧ 8 ≤ gapI base number)
    · have HR := Lib.hid (show addR ts base number clock delay = [] ∧ addB ts base number clock delay = false by
        rcases hq with h1 | ⟨h1, h2⟩
        · simp [addR, addB, h1]
        · have : ¬ gapI base number < 8 := by omega
          simp [addR, addB, this])
      clear hg
      go_enter Try.func24, Try.ntmps24
      go_wp2_with (first | (go_at_call 38; refine (c_l12Good _ _ _ ts _ Hg.out _ hn h).mono ?_; rintro e w1 ⟨rfl, hb1⟩) | (go_at_call 45; refine (c_l2Good _ ht _).mono ?_; rintro e w2 ⟨rfl, rfl⟩) | (go_at_call 39; refine (c_l11Clock _ hk _).mono ?_; rintro e w2 ⟨rfl, rfl⟩) | (go_at_call 40; refine (c_l12Delay _ hd _).mono ?_; rintro e w2 ⟨rfl, rfl⟩))
      refine (c_l12AddNo _ _ _ ts base number clock delay Hok.out b0 b1 x0 x1 _ (by omega) (h.keep hb1) hq).mono ?_
      rintro e w3 ⟨⟨A3, c3, rfl⟩, hb3⟩
      go_wp2_with fail
      go_ret2
      rw [HR.out.1, HR.out.2]
      exact ⟨⟨_, _, rfl, Row.empty w3 _ _ _ _ (hb1.trans hb3).size⟩, (hb1.trans hb3).alloc _⟩
    · have hh : hasR ts base number = false := by cases e1 : hasR ts base number; rfl; exact absurd (.inl e1) hq
      have hg8 : gapI base number < 8 := by
        rcases Int.lt_or_le (gapI base number) 8 with h1 | h1
        · exact h1
        · exact absurd (.inr ⟨hh, h1⟩) hq
      have HR := Lib.hid (show addR ts base number clock delay = addL ts base number clock delay ∧ addB ts base number clock delay = true by simp [addR, addB, addC, hg, ht, hk, hd, hh, hg8])
      have HL := Lib.hid ((addL_len ts base number clock delay).trans (by rw [hl.out]))
      have HH := Lib.hid hh
      clear hg hq hh
      go_enter Try.func24, Try.ntmps24
      go_wp2_with (first | (go_at_call 38; refine (c_l12Good _ _ _ ts _ Hg.out _ hn h).mono ?_; rintro e w1 ⟨rfl, hb1⟩) | (go_at_call 45; refine (c_l2Good _ ht _).mono ?_; rintro e w2 ⟨rfl, rfl⟩) | (go_at_call 39; refine (c_l11Clock _ hk _).mono ?_; rintro e w2 ⟨rfl, rfl⟩) | (go_at_call 40; refine (c_l12Delay _ hd _).mono ?_; rintro e w2 ⟨rfl, rfl⟩))
      refine (c_l12Add _ _ _ ts base number clock delay hnc Hok.out b0 b1 x0 x1 y0 y1 z0 z1 _ (by omega) (h.keep hb1) HH.out hg8).mono ?_
      rw [HL.out]
      rintro e w3 ⟨⟨A3, c3, rfl, row3⟩, hb3⟩
      have hne : ((n : Int) + 1 == (n : Int)) = false := by simp; omega
      go_wp2_with fail
      go_ret2
      rw [HR.out.1, HR.out.2, HL.out]
      exact ⟨⟨_, _, rfl, row3.mono hb1.size⟩, hb1.trans hb3⟩
set_option maxRecDepth 100000 in
theorem c_iAddRequest (A : Option Addr) (n c : Nat) (ts : List Request) (base number clock delay : Int) (w : World) (hn : n ≤ 9223372036854775807) (h : Rd w A n 4 (ts.map Request.cells)) :
    Calls Try.prog 23 #[.slice A n c, .int .i64 base, .int .i64 number, .int .i64 clock, .int .i64 delay] w fun e w' => (∃ A' c', e = .returned (.tuple #[.slice A' (addR ts base number clock delay).length c', .bool (addB ts base number clock delay)]) ∧ Row w' w.heap.size 37 4 Request.cells A' (addR ts base number clock delay).length c' (addR ts base number clock delay)) ∧ Bw w w' := by
  have hl := Lib.hid h.requestlen
  rcases add_ways ts base number clock delay with hg | ⟨hg, ht⟩ | ⟨hg, ht, hk⟩ | ⟨hg, ht, hk, hd⟩ | ⟨hg, ht, hk, hd⟩
  all_goals have Hg := Lib.hid hg
  · have HR := Lib.hid (show addR ts base number clock delay = [] ∧ addB ts base number clock delay = false by simp [addR, addB, addC, *])
    go_enter Try.func23, Try.ntmps23
    go_wp2_with (first | (go_at_call 12; refine (c_AreRequests _ _ _ ts _ Hg.out _ hn h).mono ?_; rintro e w1 ⟨rfl, hb1⟩))
    go_ret2
    rw [HR.out.1, HR.out.2]
    exact ⟨⟨_, _, rfl, Row.nil _ _ _ _ _⟩, hb1⟩
  · have HR := Lib.hid (show addR ts base number clock delay = [] ∧ addB ts base number clock delay = false by simp [addR, addB, addC, *])
    go_enter Try.func23, Try.ntmps23
    go_wp2_with (first | (go_at_call 12; refine (c_AreRequests _ _ _ ts _ Hg.out _ hn h).mono ?_; rintro e w1 ⟨rfl, hb1⟩) | (go_at_call 42; refine (c_IsSerial _ ht _).mono ?_; rintro e w2 ⟨rfl, rfl⟩))
    go_ret2
    rw [HR.out.1, HR.out.2]
    exact ⟨⟨_, _, rfl, Row.nil _ _ _ _ _⟩, hb1⟩
  · have HR := Lib.hid (show addR ts base number clock delay = [] ∧ addB ts base number clock delay = false by simp [addR, addB, addC, *])
    go_enter Try.func23, Try.ntmps23
    go_wp2_with (first | (go_at_call 12; refine (c_AreRequests _ _ _ ts _ Hg.out _ hn h).mono ?_; rintro e w1 ⟨rfl, hb1⟩) | (go_at_call 42; refine (c_IsSerial _ ht _).mono ?_; rintro e w2 ⟨rfl, rfl⟩) | (go_at_call 35; refine (c_isClock _ hk _).mono ?_; rintro e w2 ⟨rfl, rfl⟩))
    go_ret2
    rw [HR.out.1, HR.out.2]
    exact ⟨⟨_, _, rfl, Row.nil _ _ _ _ _⟩, hb1⟩
  · have HR := Lib.hid (show addR ts base number clock delay = [] ∧ addB ts base number clock delay = false by simp [addR, addB, addC, *])
    go_enter Try.func23, Try.ntmps23
    go_wp2_with (first | (go_at_call 12; refine (c_AreRequests _ _ _ ts _ Hg.out _ hn h).mono ?_; rintro e w1 ⟨rfl, hb1⟩) | (go_at_call 42; refine (c_IsSerial _ ht _).mono ?_; rintro e w2 ⟨rfl, rfl⟩) | (go_at_call 35; refine (c_isClock _ hk _).mono ?_; rintro e w2 ⟨rfl, rfl⟩) | (go_at_call 36; refine (c_isDelay _ hd _).mono ?_; rintro e w2 ⟨rfl, rfl⟩))
    go_ret2
    rw [HR.out.1, HR.out.2]
    exact ⟨⟨_, _, rfl, Row.nil _ _ _ _ _⟩, hb1⟩
  · have ⟨x0, x1⟩ := inR_iff.1 ht
    have ⟨y0, y1⟩ := inR_iff.1 hk
    have ⟨z0, z1⟩ := inR_iff.1 hd
    have hn8 : n ≤ 8 := by rw [← hl.out]; exact (goodR_iff.1 hg).2.1
    have Hr2 := Lib.hid (show (decide (posR ts base number < n) && decide ((requestAt ts (posR ts base number)).number = number)) = hasR ts base number by unfold hasR; rw [hl.out])
    have hpn := posR_le ts base number
    rw [hl.out] at hpn
    have HA := Lib.hid (show addL ts base number clock delay = ts.take (posR ts base number) ++ [newReq number clock delay] ++ ts.drop (posR ts base number) from rfl)
    cases hh : hasR ts base number
    · have HG := Lib.hid (addL_good hg ht hk hd hh)
      have HR := Lib.hid (show addB ts base number clock delay = decide (gapI base number < 8) by simp [addB, addC, hg, ht, hk, hd, hh])
      have HN := Lib.hid (fun h => add_no (ts := ts) (base := base) (number := number) (clock := clock) (delay := delay) h)
      have HY := Lib.hid (fun h => add_yes (ts := ts) (base := base) (number := number) (clock := clock) (delay := delay) h)
      have HL := Lib.hid ((addL_len ts base number clock delay).trans (by rw [hl.out]))
      rw [hh] at Hr2
      generalize hp : posR ts base number = p at *
      have HPo := Lib.hid hp
      have hkd : IntKind.i64.wrap (clock + delay) = clock + delay := by rw [IntKind.wrap_i64]; omega
      clear hg hh hp
      go_enter Try.func23, Try.ntmps23
      go_wp2_with (first | (go_at_call 12; refine (c_AreRequests _ _ _ ts _ Hg.out _ hn h).mono ?_; rintro e w1 ⟨rfl, hb1⟩) | (go_at_call 42; refine (c_IsSerial _ ht _).mono ?_; rintro e w2 ⟨rfl, rfl⟩) | (go_at_call 35; refine (c_isClock _ hk _).mono ?_; rintro e w2 ⟨rfl, rfl⟩) | (go_at_call 36; refine (c_isDelay _ hd _).mono ?_; rintro e w2 ⟨rfl, rfl⟩))
      refine (c_findRequest _ _ _ ts base number Hg.out x0 x1 HPo.out Hr2.out _ (h.keep hb1)).mono ?_
      rintro e w4 ⟨rfl, hb4⟩
      have hb14 := hb1.trans hb4
      go_wp2_with fail
      refine (c_CloneRequest _ _ _ ts _ (by omega) (h.keep hb14)).mono ?_
      rintro e w5 ⟨⟨A5, c5, rfl, row5⟩, hb5⟩
      go_wp2_with fail
      refine (c_InsertRequest _ _ _ ts p (newReq number clock delay) #[.int .i64 number, .int .i64 1, .int .i64 (clock + delay), .int .i64 0] rfl w4.heap.size _ (by omega) hpn hb5.size row5).mono ?_
      rintro e w6 ⟨⟨A6, c6, rfl, row6⟩, hg6⟩
      have hbE : Bw w w6 := Bw.ofRow (hb14.trans hb5) hg6 (fun x hx => Nat.le_trans hb14.size (row5.lt x hx).1)
      rw [← HA.out] at row6
      generalize addL ts base number clock delay = L at *
      by_cases hg8 : gapI base number < 8
      · have hGT := Lib.hid (HG.out.trans (decide_eq_true hg8))
        have HRT := Lib.hid (HR.out.trans (decide_eq_true hg8))
        go_wp2_with fail
        refine (c_AreRequests _ _ _ L _ hGT.out _ (by omega) (row6.rd (fun _ => rfl))).mono ?_
        rintro e w7 ⟨rfl, hb7⟩
        go_wp2_with fail
        go_ret2
        rw [HY.out HRT.out, HRT.out, HL.out]
        exact ⟨⟨_, _, rfl, (row6.keep hb7).mono hb14.size⟩, hbE.trans hb7⟩
      · have hGT := Lib.hid (HG.out.trans (decide_eq_false hg8))
        have HRT := Lib.hid (HR.out.trans (decide_eq_false hg8))
        go_wp2_with fail
        refine (c_AreRequests _ _ _ L _ hGT.out _ (by omega) (row6.rd (fun _ => rfl))).mono ?_
        rintro e w7 ⟨rfl, hb7⟩
        go_wp2_with fail
        go_ret2
        rw [HN.out HRT.out, HRT.out]
        exact ⟨⟨_, _, rfl, Row.nil _ _ _ _ _⟩, hbE.trans hb7⟩
    · have HR := Lib.hid (show addR ts base number clock delay = [] ∧ addB ts base number clock delay = false by simp [addR, addB, hh])
      rw [hh] at Hr2
      clear hg hh
      go_enter Try.func23, Try.ntmps23
      go_wp2_with (first | (go_at_call 12; refine (c_AreRequests _ _ _ ts _ Hg.out _ hn h).mono ?_; rintro e w1 ⟨rfl, hb1⟩) | (go_at_call 42; refine (c_IsSerial _ ht _).mono ?_; rintro e w2 ⟨rfl, rfl⟩) | (go_at_call 35; refine (c_isClock _ hk _).mono ?_; rintro e w2 ⟨rfl, rfl⟩) | (go_at_call 36; refine (c_isDelay _ hd _).mono ?_; rintro e w2 ⟨rfl, rfl⟩))
      refine (c_findRequest _ _ _ ts base number Hg.out x0 x1 rfl Hr2.out _ (h.keep hb1)).mono ?_
      rintro e w4 ⟨rfl, hb4⟩
      go_wp2_with fail
      go_ret2
      rw [HR.out.1, HR.out.2]
      exact ⟨⟨_, _, rfl, Row.nil _ _ _ _ _⟩, hb1.trans hb4⟩
end Go.Proofs.Ytnejeigcdogolaa
