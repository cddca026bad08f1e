
/- Contracts of the functions that read a list of timers. -/
import Derived.Test.YtjejfkndiecmaaaK1
import Derived.Test.YtjejfkndiecmaaaK3
namespace Go.Proofs.Ytjejfkndiecmaaa
open Go.RowKit
def tAt (ts : List Timer) (k : Nat) : Timer := ts.getD k ⟨0, 0, 0⟩
def stepT (ts : List Timer) (k : Nat) : Bool := okT (tAt ts k) && (k == 0 || decide ((tAt ts (k - 1)).id < (tAt ts k).id))
def goodT (ts : List Timer) : Bool := allB (stepT ts) ts.length && decide (ts.length ≤ 10)
theorem Rd.timer {w : World} {A : Option Addr} {n : Nat} {ts : List Timer} (h : Rd w A n 3 (ts.map Timer.cells)) (hn : 0 < n) :
    ∃ b off, A = some ⟨b, off, none⟩ ∧ b < w.heap.size ∧ ∀ k, k < n → w.cell? ⟨b, off + k * 3, none⟩ = some (.int .i64 (tAt ts k).id) ∧ w.cell? ⟨b, off + k * 3 + 1, none⟩ = some (.int .i64 (tAt ts k).due) ∧ w.cell? ⟨b, off + k * 3 + 2, none⟩ = some (.int .i64 (tAt ts k).per) := by
  obtain ⟨b, off, hA, hb, hc⟩ := h.at_ hn
  refine ⟨b, off, hA, hb, fun k hk => ?_⟩
  have hl : ts.length = n := by simpa using h.len
  have hk' : k < ts.length := by omega
  have hx : (ts.map Timer.cells)[k]? = some (tAt ts k).cells := by simp [tAt, hk']
  exact ⟨hc k 0 _ _ hx rfl, hc k 1 _ _ hx rfl, hc k 2 _ _ hx rfl⟩
theorem Rd.tlen {w : World} {A : Option Addr} {n : Nat} {ts : List Timer} (h : Rd w A n 3 (ts.map Timer.cells)) : ts.length = n := by simpa using h.len
theorem goodT_false {ts : List Timer} {k : Nat} (hk : k < ts.length) (h : stepT ts k = false) : goodT ts = false := by simp [goodT, allB_false hk h]
theorem goodT_true {ts : List Timer} (h : ∀ j, j < ts.length → stepT ts j = true) : goodT ts = decide (ts.length ≤ 10) := by simp [goodT, allB_true h]
theorem c_l8Good (A : Option Addr) (n c : Nat) (ts : List Timer) {r : Bool} (hr : goodT ts = r) (w : World) (hm : n ≤ 9223372036854775807) (h : Rd w A n 3 (ts.map Timer.cells)) :
    Calls Try.prog 41 #[.slice A n c] w fun e w' => e = .returned (.bool r) ∧ Bw w w' := by
  subst hr
  have hl := Lib.hid h.tlen
  go_enter Try.func41, Try.ntmps41
  go_wp2
  go_loopw [3] (fun i wr => ∃ k : Nat, k ≤ n ∧ i = .int .i64 k ∧ (∀ j, j < k → stepT ts j = true) ∧ Bw w wr) (fun i _ => n - (intOf i).toNat)
  case atStart => exact ⟨0, Nat.zero_le _, rfl, fun j hj => absurd hj (by omega), Bw.refl _⟩
  case round =>
    obtain ⟨k, hk, rfl, hst, hbl⟩ := hrel
    have Hst := Lib.hid hst
    clear hst
    by_cases hlt : k < n
    · obtain ⟨b, off, rfl, hb, hc⟩ := (h.keep hbl).timer (by omega)
      have hb' : b < wr.heap.size + 1 := by omega
      have ⟨h0, h1, h2⟩ := hc k hlt
      have fail : stepT ts k = false → goodT ts = false := fun hh => goodT_false (by rw [hl.out]; exact hlt) hh
      have Hf := Lib.hid fail
      clear fail
      by_cases hk0 : 0 < k
      · have ⟨p0, p1, p2⟩ := hc (k - 1) (by omega)
        have e1 : ((k : Int) - 1).toNat = k - 1 := by omega
        have d0 : decide ((0 : Int) < (k : Int)) = true := by simpa using hk0
        clear hc
        cases ho : okT (tAt ts k)
        · go_wp2
          (refine wp_region_ext (by kernel_rfl) (by kernel_rfl) ?_; (repeat (go_big_quiet_step (exact Ext.calls (c_l8One _ _ _ ho _)))); (with_reducible refine wpQuiet_nil ?_); intro w2 hb2)
          go_wp2
          go_ret
          exact ⟨ret_bool (Hf.out (by simp [stepT, ho])).symm, hbl.trans hb2⟩
        · cases hs : decide ((tAt ts k).id ≤ (tAt ts (k - 1)).id)
          all_goals
            go_wp2
            (refine wp_region_ext (by kernel_rfl) (by kernel_rfl) ?_; (repeat (go_big_quiet_step (exact Ext.calls (c_l8One _ _ _ ho _)))); (with_reducible refine wpQuiet_nil ?_); intro w2 hb2)
          · have hs' := of_decide_eq_false hs
            go_wp2
            go_roundw
            case rel => exact ⟨k + 1, by omega, by go_num, snoc_lt Hst.out (by simp [stepT, ho]; omega), hbl.trans hb2⟩
            case measure => simp [intOf]; omega
          · have hs' := of_decide_eq_true hs
            go_wp2
            go_ret
            exact ⟨ret_bool (Hf.out (by simp [stepT, ho]; omega)).symm, hbl.trans hb2⟩
      · have d0 : decide ((0 : Int) < (k : Int)) = false := by simpa using hk0
        clear hc
        cases ho : okT (tAt ts k)
        all_goals
          go_wp2
          (refine wp_region_ext (by kernel_rfl) (by kernel_rfl) ?_; (repeat (go_big_quiet_step (exact Ext.calls (c_l8One _ _ _ ho _)))); (with_reducible refine wpQuiet_nil ?_); intro w2 hb2)
        · go_wp2
          go_ret
          exact ⟨ret_bool (Hf.out (by simp [stepT, ho])).symm, hbl.trans hb2⟩
        · go_wp2
          go_roundw
          case rel => exact ⟨k + 1, by omega, by go_num, snoc_lt Hst.out (by simp [stepT, ho]; omega), hbl.trans hb2⟩
          case measure => simp [intOf]; omega
    · go_wp2
      go_ret
      exact ⟨ret_bool (by rw [goodT_true (by rw [hl.out]; intro j hj; exact Hst.out j (by omega)), hl.out]; exact decide_eq_decide.2 (by omega)), hbl⟩
theorem c_IsValidTimers (A : Option Addr) (n c : Nat) (ts : List Timer) {r : Bool} (hr : goodT ts = r) (w : World) (hm : n ≤ 9223372036854775807) (h : Rd w A n 3 (ts.map Timer.cells)) :
    Calls Try.prog 11 #[.slice A n c] w fun e w' => e = .returned (.bool r) ∧ Bw w w' := by
  subst hr
  have hl := Lib.hid h.tlen
  go_enter Try.func11, Try.ntmps11
  go_wp2
  go_loopw [7] (fun i wr => ∃ k : Nat, k ≤ n ∧ i = .int .i64 k ∧ (∀ j, j < k → stepT ts j = true) ∧ Bw w wr) (fun i _ => n - (intOf i).toNat)
  case atStart => exact ⟨0, Nat.zero_le _, rfl, fun j hj => absurd hj (by omega), Bw.refl _⟩
  case round =>
    obtain ⟨k, hk, rfl, hst, hbl⟩ := hrel
    have Hst := Lib.hid hst
    clear hst
    by_cases hlt : k < n
    · obtain ⟨b, off, rfl, hb, hc⟩ := (h.keep hbl).timer (by omega)
      have hb' : b < wr.heap.size + 1 := by omega
      have ⟨h0, h1, h2⟩ := hc k hlt
      have fail : stepT ts k = false → goodT ts = false := fun hh => goodT_false (by rw [hl.out]; exact hlt) hh
      have Hf := Lib.hid fail
      clear fail
      by_cases hk0 : 0 < k
      · have ⟨p0, p1, p2⟩ := hc (k - 1) (by omega)
        have e1 : ((k : Int) - 1).toNat = k - 1 := by omega
        have d0 : decide ((0 : Int) < (k : Int)) = true := by simpa using hk0
        clear hc
        cases ho : okT (tAt ts k)
        · go_wp2
          (refine wp_region_ext (by kernel_rfl) (by kernel_rfl) ?_; (repeat (go_big_quiet_step (exact Ext.calls (c_isTimer _ _ _ ho _)))); (with_reducible refine wpQuiet_nil ?_); intro w2 hb2)
          go_wp2
          go_ret
          exact ⟨ret_bool (Hf.out (by simp [stepT, ho])).symm, (hbl.alloc _).trans hb2⟩
        · cases hs : decide ((tAt ts k).id ≤ (tAt ts (k - 1)).id)
          all_goals
            go_wp2
            (refine wp_region_ext (by kernel_rfl) (by kernel_rfl) ?_; (repeat (go_big_quiet_step (exact Ext.calls (c_isTimer _ _ _ ho _)))); (with_reducible refine wpQuiet_nil ?_); intro w2 hb2)
          · have hs' := of_decide_eq_false hs
            go_wp2
            go_roundw
            case rel => exact ⟨k + 1, by omega, by go_num, snoc_lt Hst.out (by simp [stepT, ho]; omega), (hbl.alloc _).trans hb2⟩
            case measure => simp [intOf]; omega
          · have hs' := of_decide_eq_true hs
            go_wp2
            go_ret
            exact ⟨ret_bool (Hf.out (by simp [stepT, ho]; omega)).symm, (hbl.alloc _).trans hb2⟩
      · have d0 : decide ((0 : Int) < (k : Int)) = false := by simpa using hk0
        clear hc
        cases ho : okT (tAt ts k)
        all_goals
          go_wp2
          (refine wp_region_ext (by kernel_rfl) (by kernel_rfl) ?_; (repeat (go_big_quiet_step (exact Ext.calls (c_isTimer _ _ _ ho _)))); (with_reducible refine wpQuiet_nil ?_); intro w2 hb2)
        · go_wp2
          go_ret
          exact ⟨ret_bool (Hf.out (by simp [stepT, ho])).symm, (hbl.alloc _).trans hb2⟩
        · go_wp2
          go_roundw
          case rel => exact ⟨k + 1, by omega, by go_num, snoc_lt Hst.out (by simp [stepT, ho]; omega), (hbl.alloc _).trans hb2⟩
          case measure => simp [intOf]; omega
    · go_wp2
      go_ret
      exact ⟨ret_bool (by rw [goodT_true (by rw [hl.out]; intro j hj; exact Hst.out j (by omega)), hl.out]; exact decide_eq_decide.2 (by omega)), hbl⟩
end Go.Proofs.Ytjejfkndiecmaaa
