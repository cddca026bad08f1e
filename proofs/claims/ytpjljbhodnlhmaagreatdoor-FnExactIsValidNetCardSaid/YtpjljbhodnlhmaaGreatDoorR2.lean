
/- Lists of requests: which are valid. -/
import Derived.Test.YtpjljbhodnlhmaaGreatDoorR1
import Derived.Test.YtpjljbhodnlhmaaGreatDoorF
namespace Go.Proofs.YtpjljbhodnlhmaaGreatDoor
open Go.RowKit
def okReq (r : Request) (base : Int) : Bool := inR r.number 0 65535 && decide (gapI base r.number < 8) && inR r.state 1 3 && inR r.til 0 10007 && inR r.tries 0 3
def stepR (ts : List Request) (base : Int) (k : Nat) : Bool := okReq (requestAt ts k) base && (k == 0 || decide (gapI base (requestAt ts (k - 1)).number < gapI base (requestAt ts k).number))
def goodR (ts : List Request) (base : Int) : Bool := inR base 0 65535 && decide (ts.length ≤ 8) && allB (stepR ts base) ts.length
theorem goodR_false {ts : List Request} {base : Int} {k : Nat} (hk : k < ts.length) (h : stepR ts base k = false) : goodR ts base = false := by simp [goodR, allB_false hk h]
theorem goodR_true {ts : List Request} {base : Int} (hb : inR base 0 65535 = true) (hl : ts.length ≤ 8) (h : ∀ j, j < ts.length → stepR ts base j = true) : goodR ts base = true := by simp [goodR, hb, hl, allB_true h]
theorem goodR_iff {ts : List Request} {base : Int} : goodR ts base = true ↔ inR base 0 65535 = true ∧ ts.length ≤ 8 ∧ ∀ j, j < ts.length → stepR ts base j = true := by
  constructor
  · intro h
    simp only [goodR, Bool.and_eq_true, decide_eq_true_eq] at h
    exact ⟨h.1.1, h.1.2, allB_elim h.2⟩
  · rintro ⟨h1, h2, h3⟩; exact goodR_true h1 h2 h3
theorem goodR_ok {ts : List Request} {base : Int} (h : goodR ts base = true) {j : Nat} (hj : j < ts.length) : okReq (requestAt ts j) base = true := by
  have := (goodR_iff.1 h).2.2 j hj
  simp only [stepR, Bool.and_eq_true] at this
  exact this.1
theorem okReq_bd {r : Request} {base : Int} (h : okReq r base = true) : (0 ≤ r.number ∧ r.number ≤ 65535) ∧ gapI base r.number < 8 ∧ (1 ≤ r.state ∧ r.state ≤ 3) ∧ (0 ≤ r.til ∧ r.til ≤ 10007) ∧ 0 ≤ r.tries ∧ r.tries ≤ 3 := by
  simp only [okReq, Bool.and_eq_true, inR_iff, decide_eq_true_eq] at h
  exact ⟨h.1.1.1.1, h.1.1.1.2, h.1.1.2, h.1.2, h.2⟩
theorem goodR_base {ts : List Request} {base : Int} (h : goodR ts base = true) : 0 ≤ base ∧ base ≤ 65535 := inR_iff.1 (goodR_iff.1 h).1
theorem goodR_bd {ts : List Request} {base : Int} (h : goodR ts base = true) {j : Nat} (hj : j < ts.length) : (0 ≤ (requestAt ts j).number ∧ (requestAt ts j).number ≤ 65535) ∧ gapI base (requestAt ts j).number < 8 ∧ (1 ≤ (requestAt ts j).state ∧ (requestAt ts j).state ≤ 3) ∧ (0 ≤ (requestAt ts j).til ∧ (requestAt ts j).til ≤ 10007) ∧ 0 ≤ (requestAt ts j).tries ∧ (requestAt ts j).tries ≤ 3 :=
  okReq_bd (goodR_ok h hj)
theorem goodR_lt {ts : List Request} {base : Int} (h : goodR ts base = true) {i j : Nat} (hij : i < j) (hj : j < ts.length) : gapI base (requestAt ts i).number < gapI base (requestAt ts j).number := by
  induction j with
  | zero => omega
  | succ j ih =>
    have := (goodR_iff.1 h).2.2 (j + 1) hj
    simp [stepR] at this
    rcases Nat.lt_or_ge i j with h1 | h1
    · have := ih h1 (by omega); omega
    · obtain rfl : i = j := by omega
      omega
theorem x_isRequest (a b c d base : Int) {r : Bool} (h : okReq ⟨a, b, c, d⟩ base = r) (h0 : 0 ≤ base) (h1 : base ≤ 65535) (w : World) : Calls Tryz.prog 161 #[.agg #[.int .i64 a, .int .i64 b, .int .i64 c, .int .i64 d], .int .i64 base] w fun e w' => e = .returned (.bool r) ∧ w.alloc (.cells #[.int .i64 a, .int .i64 b, .int .i64 c, .int .i64 d] 151) = w' := by
  subst h
  cases hn : inR a 0 65535
  · go_enter Tryz.func161, Tryz.ntmps161
    go_wp2_with (go_at_call 86; refine (c_IsSerial _ hn _).mono ?_; rintro e w1 ⟨rfl, rfl⟩)
    go_ret
    exact ⟨ret_bool (by simp [okReq, hn]), rfl⟩
  · have ⟨_, _⟩ := inR_iff.1 hn
    go_enter Tryz.func161, Tryz.ntmps161
    go_wp2_with (first | (go_at_call 86; refine (c_IsSerial _ hn _).mono ?_; rintro e w1 ⟨rfl, rfl⟩) | (go_at_call 88; refine (c_gap _ _ rfl (by omega) (by omega) (by omega) (by omega) _).mono ?_; rintro e w1 ⟨rfl, rfl⟩) | (go_at_call 54; refine (c_within _ _ _ rfl _).mono ?_; rintro e w1 ⟨rfl, rfl⟩))
    all_goals (go_ret; refine ⟨ret_bool ?_, rfl⟩; simp [okReq, *] <;> (intros; omega))
theorem c_isRequest (a b c d base : Int) {r : Bool} (h : okReq ⟨a, b, c, d⟩ base = r) (h0 : 0 ≤ base) (h1 : base ≤ 65535) (w : World) : Calls Tryz.prog 161 #[.agg #[.int .i64 a, .int .i64 b, .int .i64 c, .int .i64 d], .int .i64 base] w fun e w' => e = .returned (.bool r) ∧ Bw w w' :=
  (x_isRequest a b c d base h h0 h1 w).mono fun _ _ ⟨he, hw⟩ => ⟨he, hw ▸ (Bw.refl _).alloc _⟩
set_option maxHeartbeats 4000000 in
theorem c_AreRequests (A : Option Addr) (n c : Nat) (ts : List Request) (base : Int) {r : Bool} (hr : goodR ts base = r) (w : World) (hm : n ≤ 9223372036854775807) (h : Rd w A n 4 (ts.map Request.cells)) :
    Calls Tryz.prog 133 #[.slice A n c, .int .i64 base] w fun e w' => e = .returned (.bool r) ∧ Bw w w' := by
  subst hr
  have hl := Lib.hid h.requestlen
  cases hs : inR base 0 65535
  · have HR := Lib.hid (show goodR ts base = false by simp [goodR, hs])
    go_enter Tryz.func133, Tryz.ntmps133
    go_wp2_with (go_at_call 86; refine (c_IsSerial _ hs _).mono ?_; rintro e w1 ⟨rfl, rfl⟩)
    go_ret
    exact ⟨ret_bool HR.out.symm, Bw.refl _⟩
  · have ⟨_, _⟩ := inR_iff.1 hs
    by_cases h8 : n ≤ 8
    · go_enter Tryz.func133, Tryz.ntmps133
      go_wp2_with (go_at_call 86; refine (c_IsSerial _ hs _).mono ?_; rintro e w1 ⟨rfl, rfl⟩)
      go_loopw [17] (fun i wr => ∃ k : Nat, k ≤ n ∧ i = .int .i64 k ∧ (∀ j, j < k → stepR ts base j = true) ∧ Bw w wr) (fun i _ => n - (intOf i).toNat)
      case atStart => exact ⟨0, Nat.zero_le _, rfl, fun j hj => absurd hj (by omega), Bw.refl _⟩
      case round =>
        obtain ⟨k, hk, rfl, hst, hbl⟩ := hrel
        have Hst := Lib.hid hst
        clear hst
        by_cases hlt : k < n
        · obtain ⟨b, off, rfl, hb, hc⟩ := (h.keep hbl).request (by omega)
          have hb' : b < wr.heap.size + 1 := by omega
          have ⟨h0, h1, h2, h3⟩ := hc k hlt
          have fail : stepR ts base k = false → goodR ts base = false := fun hh => goodR_false (by rw [hl.out]; exact hlt) hh
          have Hf := Lib.hid fail
          clear fail
          cases ho : okReq (requestAt ts k) base
          · clear hc
            go_wp2
            (refine wp_region_ext (by kernel_rfl) (by kernel_rfl) ?_; (repeat (go_big_quiet_step (exact Ext.calls (c_isRequest _ _ _ _ _ ho (by omega) (by omega) _)))); (with_reducible refine wpQuiet_nil ?_); intro w2 hb2)
            go_wp2
            go_ret
            exact ⟨ret_bool (Hf.out (by simp [stepR, ho])).symm, (hbl.alloc _).trans hb2⟩
          · have ⟨⟨_, _⟩, _⟩ := okReq_bd ho
            by_cases hk0 : 0 < k
            · have ⟨p0, p1, p2, p3⟩ := hc (k - 1) (by omega)
              have e1 : ((k : Int) - 1).toNat = k - 1 := by omega
              have d0 : decide ((0 : Int) < (k : Int)) = true := by simpa using hk0
              have hpo := okReq_bd (by have := Hst.out (k - 1) (by omega); simp only [stepR, Bool.and_eq_true] at this; exact this.1)
              have ⟨⟨_, _⟩, _⟩ := hpo
              clear hc hpo
              cases hss : decide (gapI base (requestAt ts k).number ≤ gapI base (requestAt ts (k - 1)).number)
              all_goals
                go_wp2
                (refine wp_region_ext (by kernel_rfl) (by kernel_rfl) ?_; (repeat (go_big_quiet_step ((first | (go_at_call 161; exact Ext.calls (c_isRequest _ _ _ _ _ ho (by omega) (by omega) _)) | exact Ext.same (c_gap _ _ rfl (by omega) (by omega) (by omega) (by omega) _))))); (with_reducible refine wpQuiet_nil ?_); intro w2 hb2)
              · have hs' := of_decide_eq_false hss
                go_wp2
                go_roundw
                case rel => exact ⟨k + 1, by omega, by go_num, snoc_lt Hst.out (by simp [stepR, ho]; omega), (hbl.alloc _).trans hb2⟩
                case measure => simp [intOf]; omega
              · have hs' := of_decide_eq_true hss
                go_wp2
                go_ret
                exact ⟨ret_bool (Hf.out (by simp [stepR, ho]; omega)).symm, (hbl.alloc _).trans hb2⟩
            · have d0 : decide ((0 : Int) < (k : Int)) = false := by simpa using hk0
              clear hc
              go_wp2
              (refine wp_region_ext (by kernel_rfl) (by kernel_rfl) ?_; (repeat (go_big_quiet_step (exact Ext.calls (c_isRequest _ _ _ _ _ ho (by omega) (by omega) _)))); (with_reducible refine wpQuiet_nil ?_); intro w2 hb2)
              go_wp2
              go_roundw
              case rel => exact ⟨k + 1, by omega, by go_num, snoc_lt Hst.out (by simp [stepR, ho]; omega), (hbl.alloc _).trans hb2⟩
              case measure => simp [intOf]; omega
        · go_wp2
          go_ret
          exact ⟨ret_bool (goodR_true hs (by rw [hl.out]; exact h8) (by rw [hl.out]; intro j hj; exact Hst.out j (by omega))).symm, hbl⟩
    · have HR := Lib.hid (show goodR ts base = false by simp [goodR, hl.out, h8])
      go_enter Tryz.func133, Tryz.ntmps133
      go_wp2_with (go_at_call 86; refine (c_IsSerial _ hs _).mono ?_; rintro e w1 ⟨rfl, rfl⟩)
      go_ret
      exact ⟨ret_bool HR.out.symm, Bw.refl _⟩
theorem okReq_ways (r : Request) (base : Int) : (okReq r base = true ∧ inR r.number 0 65535 = true ∧ gapI base r.number < 8 ∧ inR r.state 1 3 = true ∧ inR r.til 0 10007 = true ∧ inR r.tries 0 3 = true) ∨
    (okReq r base = false ∧ (inR r.number 0 65535 = false ∨ (inR r.number 0 65535 = true ∧ (8 ≤ gapI base r.number ∨ (gapI base r.number < 8 ∧ (inR r.state 1 3 = false ∨ (inR r.state 1 3 = true ∧ (inR r.til 0 10007 = false ∨ (inR r.til 0 10007 = true ∧ inR r.tries 0 3 = false))))))))) := by
  cases h1 : inR r.number 0 65535
  · right; simp [okReq, h1]
  · by_cases h2 : gapI base r.number < 8
    · cases h3 : inR r.state 1 3
      · right; simp [okReq, h3, h2]
      · cases h4 : inR r.til 0 10007
        · right; simp [okReq, h4, h2]
        · cases h5 : inR r.tries 0 3
          · right; simp [okReq, h5, h2]
          · left; simp [okReq, h1, h2, h3, h4, h5]
    · right
      refine ⟨by simp [okReq, h2], .inr ⟨rfl, .inl (by omega)⟩⟩
set_option maxHeartbeats 4000000 in
theorem c_l12Good (A : Option Addr) (n c : Nat) (ts : List Request) (base : Int) {r : Bool} (hr : goodR ts base = r) (w : World) (hm : n ≤ 9223372036854775807) (h : Rd w A n 4 (ts.map Request.cells)) :
    Calls Tryz.prog 148 #[.slice A n c, .int .i64 base] w fun e w' => e = .returned (.bool r) ∧ Bw w w' := by
  subst hr
  have hl := Lib.hid h.requestlen
  cases hs : inR base 0 65535
  · have HR := Lib.hid (show goodR ts base = false by simp [goodR, hs])
    go_enter Tryz.func148, Tryz.ntmps148
    go_wp2_with (go_at_call 99; refine (c_l2Good _ hs _).mono ?_; rintro e w1 ⟨rfl, rfl⟩)
    go_ret
    exact ⟨ret_bool HR.out.symm, Bw.refl _⟩
  · have ⟨_, _⟩ := inR_iff.1 hs
    by_cases h8 : n ≤ 8
    · go_enter Tryz.func148, Tryz.ntmps148
      go_wp2_with (go_at_call 99; refine (c_l2Good _ hs _).mono ?_; rintro e w1 ⟨rfl, rfl⟩)
      go_loopw [5] (fun i wr => ∃ k : Nat, k ≤ n ∧ i = .int .i64 k ∧ (∀ j, j < k → stepR ts base j = true) ∧ Bw w wr) (fun i _ => n - (intOf i).toNat)
      case atStart => exact ⟨0, Nat.zero_le _, rfl, fun j hj => absurd hj (by omega), Bw.refl _⟩
      case round =>
        obtain ⟨k, hk, rfl, hst, hbl⟩ := hrel
        have Hst := Lib.hid hst
        clear hst
        by_cases hlt : k < n
        · obtain ⟨b, off, rfl, hb, hc⟩ := (h.keep hbl).request (by omega)
          have hb' : b < wr.heap.size + 1 := by omega
          have ⟨h0, h1, h2, hq⟩ := hc k hlt
          have fail : stepR ts base k = false → goodR ts base = false := fun hh => goodR_false (by rw [hl.out]; exact hlt) hh
          have Hf := Lib.hid fail
          clear fail
          rcases okReq_ways (requestAt ts k) base with ⟨ho, hn, hg, h3, h4, h5⟩ | ⟨ho, hw⟩
          · have ⟨_, _⟩ := inR_iff.1 hn
            by_cases hk0 : 0 < k
            · have ⟨p0, p1, p2, p3⟩ := hc (k - 1) (by omega)
              have e1 : ((k : Int) - 1).toNat = k - 1 := by omega
              have d0 : decide ((0 : Int) < (k : Int)) = true := by simpa using hk0
              have hpo := okReq_bd (by have := Hst.out (k - 1) (by omega); simp only [stepR, Bool.and_eq_true] at this; exact this.1)
              have ⟨⟨_, _⟩, _⟩ := hpo
              clear hc hpo
              cases hss : decide (gapI base (requestAt ts k).number ≤ gapI base (requestAt ts (k - 1)).number)
              all_goals
                go_wp2_with (first | (go_at_call 99; refine (c_l2Good _ hn _).mono ?_; rintro e w1 ⟨rfl, rfl⟩) | (go_at_call 101; refine (c_l2Gap _ _ rfl (by omega) (by omega) (by omega) (by omega) _).mono ?_; rintro e w1 ⟨rfl, rfl⟩) | (go_at_call 53; first | ((with_reducible refine (c_l1In _ _ _ h3 _).mono ?_); rintro e w1 ⟨rfl, rfl⟩) | ((with_reducible refine (c_l1In _ _ _ h4 _).mono ?_); rintro e w1 ⟨rfl, rfl⟩) | ((with_reducible refine (c_l1In _ _ _ h5 _).mono ?_); rintro e w1 ⟨rfl, rfl⟩)))
                (refine wp_region_ext (by kernel_rfl) (by kernel_rfl) ?_; (repeat (go_big_quiet_step (exact Ext.same (c_l2Gap _ _ rfl (by omega) (by omega) (by omega) (by omega) _)))); (with_reducible refine wpQuiet_nil ?_); intro w2 hb2)
              · have hs' := of_decide_eq_false hss
                go_wp2
                go_roundw
                case rel => exact ⟨k + 1, by omega, by go_num, snoc_lt Hst.out (by simp [stepR, ho]; omega), (hbl.alloc _).trans hb2⟩
                case measure => simp [intOf]; omega
              · have hs' := of_decide_eq_true hss
                go_wp2
                go_ret
                exact ⟨ret_bool (Hf.out (by simp [stepR, ho]; omega)).symm, (hbl.alloc _).trans hb2⟩
            · have d0 : decide ((0 : Int) < (k : Int)) = false := by simpa using hk0
              clear hc
              go_wp2_with (first | (go_at_call 99; refine (c_l2Good _ hn _).mono ?_; rintro e w1 ⟨rfl, rfl⟩) | (go_at_call 101; refine (c_l2Gap _ _ rfl (by omega) (by omega) (by omega) (by omega) _).mono ?_; rintro e w1 ⟨rfl, rfl⟩) | (go_at_call 53; first | ((with_reducible refine (c_l1In _ _ _ h3 _).mono ?_); rintro e w1 ⟨rfl, rfl⟩) | ((with_reducible refine (c_l1In _ _ _ h4 _).mono ?_); rintro e w1 ⟨rfl, rfl⟩) | ((with_reducible refine (c_l1In _ _ _ h5 _).mono ?_); rintro e w1 ⟨rfl, rfl⟩)))
              (refine wp_region_ext (by kernel_rfl) (by kernel_rfl) ?_; (repeat (go_big_quiet_step (fail))); (with_reducible refine wpQuiet_nil ?_); intro w2 hb2)
              go_wp2
              go_roundw
              case rel => exact ⟨k + 1, by omega, by go_num, snoc_lt Hst.out (by simp [stepR, ho]; omega), (hbl.alloc _).trans hb2⟩
              case measure => simp [intOf]; omega
          · clear hc
            have HF := Lib.hid (Hf.out (by simp [stepR, ho]))
            rcases hw with hn | ⟨hn, hw⟩
            · go_wp2_with (first | (go_at_call 99; refine (c_l2Good _ hn _).mono ?_; rintro e w1 ⟨rfl, rfl⟩) | (go_at_call 101; refine (c_l2Gap _ _ rfl (by omega) (by omega) (by omega) (by omega) _).mono ?_; rintro e w1 ⟨rfl, rfl⟩) | (go_at_call 53; first | ((with_reducible refine (c_l1In _ _ _ h3 _).mono ?_); rintro e w1 ⟨rfl, rfl⟩) | ((with_reducible refine (c_l1In _ _ _ h4 _).mono ?_); rintro e w1 ⟨rfl, rfl⟩) | ((with_reducible refine (c_l1In _ _ _ h5 _).mono ?_); rintro e w1 ⟨rfl, rfl⟩)))
              go_ret
              exact ⟨ret_bool HF.out.symm, hbl.alloc _⟩
            · have ⟨_, _⟩ := inR_iff.1 hn
              rcases hw with hg | ⟨hg, h3 | ⟨h3, h4 | ⟨h4, h5⟩⟩⟩
              all_goals
                go_wp2_with (first | (go_at_call 99; refine (c_l2Good _ hn _).mono ?_; rintro e w1 ⟨rfl, rfl⟩) | (go_at_call 101; refine (c_l2Gap _ _ rfl (by omega) (by omega) (by omega) (by omega) _).mono ?_; rintro e w1 ⟨rfl, rfl⟩) | (go_at_call 53; first | ((with_reducible refine (c_l1In _ _ _ h3 _).mono ?_); rintro e w1 ⟨rfl, rfl⟩) | ((with_reducible refine (c_l1In _ _ _ h4 _).mono ?_); rintro e w1 ⟨rfl, rfl⟩) | ((with_reducible refine (c_l1In _ _ _ h5 _).mono ?_); rintro e w1 ⟨rfl, rfl⟩)))
                go_ret
                exact ⟨ret_bool HF.out.symm, hbl.alloc _⟩
        · go_wp2
          go_ret
          exact ⟨ret_bool (goodR_true hs (by rw [hl.out]; exact h8) (by rw [hl.out]; intro j hj; exact Hst.out j (by omega))).symm, hbl⟩
    · have HR := Lib.hid (show goodR ts base = false by simp [goodR, hl.out, h8])
      go_enter Tryz.func148, Tryz.ntmps148
      go_wp2_with (go_at_call 99; refine (c_l2Good _ hs _).mono ?_; rintro e w1 ⟨rfl, rfl⟩)
      go_ret
      exact ⟨ret_bool HR.out.symm, Bw.refl _⟩
end Go.Proofs.YtpjljbhodnlhmaaGreatDoor
