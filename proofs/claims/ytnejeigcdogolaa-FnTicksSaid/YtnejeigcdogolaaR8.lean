
/- Searching a list of requests. -/
import Derived.Test.YtnejeigcdogolaaR5
namespace Go.Proofs.Ytnejeigcdogolaa
open Go.RowKit
def posR (ts : List Request) (base number : Int) : Nat := ts.findIdx (fun t => decide (gapI base number ≤ gapI base t.number))
theorem posR_le (ts : List Request) (base number : Int) : posR ts base number ≤ ts.length := List.findIdx_le_length
theorem posR_lo {ts : List Request} {base number : Int} {j : Nat} (h : j < posR ts base number) : gapI base (requestAt ts j).number < gapI base number := by
  have hl : j < ts.length := Nat.lt_of_lt_of_le h (posR_le _ _ _)
  have := List.not_of_lt_findIdx h
  rw [requestAt_lt hl]; simp at this; omega
theorem posR_at {ts : List Request} {base number : Int} (hp : posR ts base number < ts.length) : gapI base number ≤ gapI base (requestAt ts (posR ts base number)).number := by
  rw [requestAt_lt hp]
  have := List.findIdx_getElem (w := hp)
  simp only [decide_eq_true_eq] at this
  exact this
theorem posR_hi {ts : List Request} {base : Int} (hg : goodR ts base = true) {number : Int} {j : Nat} (h : posR ts base number ≤ j) (hj : j < ts.length) : gapI base number ≤ gapI base (requestAt ts j).number := by
  have h1 := posR_at (ts := ts) (base := base) (number := number) (by omega)
  rcases Nat.lt_or_ge (posR ts base number) j with h2 | h2
  · have := goodR_lt hg h2 hj; omega
  · obtain rfl : j = posR ts base number := by omega
    exact h1
theorem posR_eq {ts : List Request} {base number : Int} {k : Nat} (hk : k ≤ ts.length) (lo : ∀ j, j < k → gapI base (requestAt ts j).number < gapI base number) (hi : k < ts.length → ¬ gapI base (requestAt ts k).number < gapI base number) : posR ts base number = k := by
  rcases Nat.lt_trichotomy (posR ts base number) k with h | h | h
  · have h1 := lo _ h
    have h2 := posR_at (ts := ts) (base := base) (number := number) (by omega)
    omega
  · exact h
  · exact absurd (posR_lo h) (hi (by have := posR_le ts base number; omega))
theorem gapI_inj {base x y : Int} (h0 : 0 ≤ x) (h1 : x ≤ 65535) (h2 : 0 ≤ y) (h3 : y ≤ 65535) : gapI base x = gapI base y ↔ x = y := by
  unfold gapI; omega
theorem c_l12Place (A : Option Addr) (n c : Nat) (ts : List Request) (base number : Int) (hok : ∀ j, j < ts.length → 0 ≤ (requestAt ts j).number ∧ (requestAt ts j).number ≤ 65535) (b0 : 0 ≤ base) (b1 : base ≤ 65535) (n0 : 0 ≤ number) (n1 : number ≤ 65535)
    {p : Nat} (hp : posR ts base number = p) {r : Bool} (hr : (decide (p < n) && decide ((requestAt ts p).number = number)) = r) (w : World) (hn : n ≤ 100) (h : Rd w A n 4 (ts.map Request.cells)) :
    Calls Try.prog 75 #[.slice A n c, .int .i64 base, .int .i64 number] w fun e w' => e = .returned (.tuple #[.int .i64 p, .bool r]) ∧ Bw w w' := by
  subst hp
  subst hr
  have hl := Lib.hid h.requestlen
  have Hok := Lib.hid hok
  clear hok
  go_enter Try.func75, Try.ntmps75
  go_wp2
  go_loop [8] (fun i => ∃ k : Nat, k ≤ n ∧ i = .int .i64 k ∧ ∀ j, j < k → gapI base (requestAt ts j).number < gapI base number) (fun i => n - (intOf i).toNat)
  case atStart => exact ⟨0, Nat.zero_le _, rfl, fun j hj => absurd hj (by omega)⟩
  case round =>
    obtain ⟨k, hk, rfl, hn'⟩ := hrel
    have Hn := Lib.hid hn'
    clear hn'
    by_cases hlt : k < n
    · obtain ⟨b, off, rfl, hb, hc⟩ := h.request (by omega)
      have ⟨h0, h1, h2, h3⟩ := hc k hlt
      clear hc
      have hkt : k < ts.length := by rw [hl.out]; exact hlt
      have ⟨o0, o1⟩ := Hok.out k hkt
      by_cases he : gapI base (requestAt ts k).number < gapI base number
      · have HE := Lib.hid he
        go_wp2_with (go_at_call 64; refine (c_l2Gap _ _ rfl (by omega) (by omega) (by omega) (by omega) _).mono ?_; rintro e w1 ⟨rfl, rfl⟩)
        go_round
        case rel => exact ⟨k + 1, by omega, by go_num, snoc_lt Hn.out HE.out⟩
        case measure => simp [intOf]; omega
      · have HP := Lib.hid (posR_eq (Nat.le_of_lt hkt) Hn.out (fun _ => he))
        have HE := Lib.hid he
        by_cases hq : (requestAt ts k).number = number
        · have hq' : ((requestAt ts k).number == number) = true := by simpa using hq
          have HQ := Lib.hid hq
          clear hq
          go_wp2_with (go_at_call 64; refine (c_l2Gap _ _ rfl (by omega) (by omega) (by omega) (by omega) _).mono ?_; rintro e w1 ⟨rfl, rfl⟩)
          (refine wp_region_ext (by kernel_rfl) (by kernel_rfl) ?_; (repeat (go_big_quiet_step (fail))); (with_reducible refine wpQuiet_nil ?_); intro w2 hb2)
          go_wp2
          go_ret2
          rw [HP.out]
          exact ⟨by simp [hlt, HQ.out], hb2⟩
        · have hq' : ((requestAt ts k).number == number) = false := by simpa using hq
          have HQ := Lib.hid hq
          clear hq
          go_wp2_with (go_at_call 64; refine (c_l2Gap _ _ rfl (by omega) (by omega) (by omega) (by omega) _).mono ?_; rintro e w1 ⟨rfl, rfl⟩)
          (refine wp_region_ext (by kernel_rfl) (by kernel_rfl) ?_; (repeat (go_big_quiet_step (fail))); (with_reducible refine wpQuiet_nil ?_); intro w2 hb2)
          go_wp2
          go_ret2
          rw [HP.out]
          exact ⟨by simp [hlt, HQ.out], hb2⟩
    · have HP := Lib.hid (posR_eq (k := k) (by rw [hl.out]; omega) Hn.out (fun h => absurd h (by rw [hl.out]; omega)))
      go_wp2
      (refine wp_region_ext (by kernel_rfl) (by kernel_rfl) ?_; (repeat (go_big_quiet_step (fail))); (with_reducible refine wpQuiet_nil ?_); intro w2 hb2)
      go_wp2
      go_ret2
      rw [HP.out]
      exact ⟨by simp [hlt], hb2⟩
theorem c_find1 (r : Request) (number : Int) (q : Addr) (base : Int) (b0 : 0 ≤ base) (b1 : base ≤ 65535) (r0 : 0 ≤ r.number) (r1 : r.number ≤ 65535) (n0 : 0 ≤ number) (n1 : number ≤ 65535) {m : Int} (hm : gapI base r.number - gapI base number = m) (w : World) (hq : w.cell? q = some (.int .i64 base)) :
    Calls Try.prog 72 #[.agg #[.int .i64 r.number, .int .i64 r.state, .int .i64 r.til, .int .i64 r.tries], .int .i64 number, .pointer (some q)] w fun e w' => e = .returned (.int .i64 m) ∧ Bw w w' := by
  have hlt := World.block_lt_of_cell? w q hq
  obtain ⟨qb, qo, qs⟩ := q
  have ⟨g0, g1⟩ := gapI_bd base r.number
  have ⟨g2, g3⟩ := gapI_bd base number
  have HM := Lib.hid hm
  clear hm
  go_enter Try.func72, Try.ntmps72
  go_wp2
  (refine wp_region_ext (by kernel_rfl) (by kernel_rfl) ?_; (repeat (go_big_quiet_step (first | with_reducible exact Ext.same (c_gap base r.number rfl b0 b1 r0 r1 _) | with_reducible exact Ext.same (c_gap base number rfl b0 b1 n0 n1 _)))); (with_reducible refine wpQuiet_nil ?_); intro w2 hb2)
  go_wp2
  go_ret
  exact ⟨ret_int (by rw [← HM.out]), Bw.trans (Bw.alloc (Bw.refl _) _) hb2⟩
theorem c_bsearch (A : Option Addr) (n c : Nat) (ts : List Request) (base number : Int) (q : Addr) (p : Nat) (w : World) (hm : n ≤ 1000000000) (h : Rd w A n 4 (ts.map Request.cells)) (hq : w.cell? q = some (.int .i64 base))
    (hok : ∀ j, j < n → 0 ≤ (requestAt ts j).number ∧ (requestAt ts j).number ≤ 65535) (b0 : 0 ≤ base) (b1 : base ≤ 65535) (n0 : 0 ≤ number) (n1 : number ≤ 65535)
    (hp : p ≤ n) (hlo : ∀ j, j < p → gapI base (requestAt ts j).number < gapI base number) (hhi : ∀ j, p ≤ j → j < n → gapI base number ≤ gapI base (requestAt ts j).number) {r : Bool} (hr : (decide (p < n) && decide ((requestAt ts p).number = number)) = r) :
    Calls Try.prog 71 #[.slice A n c, .int .i64 number, .func (.func 72) #[] #[.pointer (some q)]] w fun e w' => e = .returned (.tuple #[.int .i64 p, .bool r]) ∧ Bw w w' := by
  subst hr
  have Hlo := Lib.hid hlo
  have Hhi := Lib.hid hhi
  have Hok := Lib.hid hok
  clear hlo hhi hok
  go_enter Try.func71, Try.ntmps71
  go_wp2
  go_loopw [9, 10] (fun iv jv wr => ∃ i j : Nat, i ≤ p ∧ p ≤ j ∧ j ≤ n ∧ iv = .int .i64 i ∧ jv = .int .i64 j ∧ Bw w wr) (fun iv jv _ => (intOf jv - intOf iv).toNat)
  case atStart => exact ⟨0, n, Nat.zero_le _, hp, Nat.le_refl _, rfl, rfl, Bw.refl _⟩
  case round =>
    obtain ⟨i, j, hi, hj, hjn, rfl, rfl, hbl⟩ := hrel
    by_cases hlt : i < j
    · obtain ⟨b, off, rfl, hb, hc⟩ := (h.keep hbl).request (by omega)
      have ⟨h0, h1, h2, h3⟩ := hc ((i + j) / 2) (by omega)
      clear hc
      have ⟨r0, r1⟩ := Hok.out ((i + j) / 2) (by omega)
      generalize hcv : gapI base (requestAt ts ((i + j) / 2)).number - gapI base number = cv
      have HC := Lib.hid hcv
      by_cases hk : cv < 0
      · have hip : (i + j) / 2 < p := by
          rcases Nat.lt_or_ge ((i + j) / 2) p with h1 | h1
          · exact h1
          · have := Hhi.out _ h1 (by omega); omega
        clear hcv
        go_wp2_with (go_at_call 72; refine (c_find1 _ _ _ _ b0 b1 r0 r1 n0 n1 HC.out _ (hbl.cellv hq)).mono ?_; rintro e w1 ⟨rfl, hb1⟩)
        go_roundw
        case rel => exact ⟨(i + j) / 2 + 1, j, by omega, by omega, by omega, by go_num, rfl, hbl.trans hb1⟩
        case measure => simp [intOf]; omega
      · have hip : p ≤ (i + j) / 2 := by
          rcases Nat.lt_or_ge ((i + j) / 2) p with h1 | h1
          · have := Hlo.out _ h1; omega
          · exact h1
        clear hcv
        go_wp2_with (go_at_call 72; refine (c_find1 _ _ _ _ b0 b1 r0 r1 n0 n1 HC.out _ (hbl.cellv hq)).mono ?_; rintro e w1 ⟨rfl, hb1⟩)
        go_roundw
        case rel => exact ⟨i, (i + j) / 2, by omega, by omega, by omega, rfl, by go_num, hbl.trans hb1⟩
        case measure => simp [intOf]; omega
    · obtain rfl : i = p := by omega
      obtain rfl : i = j := by omega
      by_cases hin : i < n
      · obtain ⟨b, off, rfl, hb, hc⟩ := (h.keep hbl).request (by omega)
        have ⟨h0, h1, h2, h3⟩ := hc i hin
        clear hc
        have ⟨r0, r1⟩ := Hok.out i hin
        generalize hcv : gapI base (requestAt ts i).number - gapI base number = cv
        have HC := Lib.hid hcv
        clear hcv
        go_wp2_with (go_at_call 72; refine (c_find1 _ _ _ _ b0 b1 r0 r1 n0 n1 HC.out _ (hbl.cellv hq)).mono ?_; rintro e w1 ⟨rfl, hb1⟩)
        go_ret2
        refine ⟨?_, hbl.trans hb1⟩
        have e1 : (cv == 0) = decide ((requestAt ts i).number = number) := by
          rw [← HC.out, Bool.eq_iff_iff]
          have := gapI_inj (base := base) r0 r1 n0 n1
          simp only [beq_iff_eq, decide_eq_true_eq]
          omega
        simp [hin, e1]
      · go_wp2
        go_ret2
        refine ⟨?_, hbl⟩
        simp [hin]
theorem c_findRequest (A : Option Addr) (n c : Nat) (ts : List Request) (base number : Int) (hg : goodR ts base = true) (n0 : 0 ≤ number) (n1 : number ≤ 65535) {p : Nat} (hp : posR ts base number = p) {r : Bool} (hr : (decide (p < n) && decide ((requestAt ts p).number = number)) = r) (w : World) (h : Rd w A n 4 (ts.map Request.cells)) :
    Calls Try.prog 53 #[.slice A n c, .int .i64 base, .int .i64 number] w fun e w' => e = .returned (.tuple #[.int .i64 p, .bool r]) ∧ Bw w w' := by
  subst hp
  have hl := h.requestlen
  have hn8 : n ≤ 8 := by rw [← hl]; exact (goodR_iff.1 hg).2.1
  have ⟨b0, b1⟩ := goodR_base hg
  have Hok := Lib.hid (show ∀ j, j < n → 0 ≤ (requestAt ts j).number ∧ (requestAt ts j).number ≤ 65535 from fun j hj => (goodR_bd hg (by omega)).1)
  have Hlo := Lib.hid (show ∀ j, j < posR ts base number → gapI base (requestAt ts j).number < gapI base number from fun j hj => posR_lo hj)
  have Hhi := Lib.hid (show ∀ j, posR ts base number ≤ j → j < n → gapI base number ≤ gapI base (requestAt ts j).number from fun j h1 h2 => posR_hi hg h1 (by omega))
  have hpn : posR ts base number ≤ n := by rw [← hl]; exact posR_le _ _ _
  clear hl
  go_enter Try.func53, Try.ntmps53
  go_wp2_with fail
  refine (c_bsearch _ _ _ ts base number ⟨w.heap.size, 0, none⟩ _ _ (by omega) (h.keep (Bw.alloc (Bw.refl _) _)) (by go_simp) Hok.out b0 b1 n0 n1 hpn Hlo.out Hhi.out hr).mono ?_
  rintro e w1 ⟨rfl, hb1⟩
  go_wp2_with fail
  go_ret2
  exact ⟨rfl, Bw.trans (Bw.alloc (Bw.refl _) _) hb1⟩
end Go.Proofs.Ytnejeigcdogolaa
