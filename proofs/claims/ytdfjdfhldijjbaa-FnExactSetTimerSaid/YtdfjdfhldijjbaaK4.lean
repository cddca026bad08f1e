
/- The laws' own helpers at timers and at numbers: copies, equality, marks. -/
import Derived.Test.YtdfjdfhldijjbaaK2
namespace Go.Proofs.Ytdfjdfhldijjbaa
open Go.RowKit
theorem x_toTimer (i d p : Int) (w : World) : Calls Try.prog 15 #[.agg #[.int .i64 i, .int .i64 d, .int .i64 p]] w fun e w' => e = .returned (.agg #[.int .i64 i, .int .i64 d, .int .i64 p]) ∧ ((w.alloc (.cells #[.int .i64 i, .int .i64 d, .int .i64 p] 23)).alloc (.cells #[.int .i64 i, .int .i64 d, .int .i64 p] 24)).alloc (.cells #[.int .i64 i, .int .i64 d, .int .i64 p] 24) = w' := by
  go_enter Try.func15, Try.ntmps15
  go_wp2
  refine bodyPost_ret (v := .agg #[.int .i64 i, .int .i64 d, .int .i64 p]) (by simp [results, Try.results15, go_sem]) rfl ⟨rfl, rfl⟩
theorem c_toTimer (i d p : Int) (w : World) : Calls Try.prog 15 #[.agg #[.int .i64 i, .int .i64 d, .int .i64 p]] w fun e w' => e = .returned (.agg #[.int .i64 i, .int .i64 d, .int .i64 p]) ∧ Bw w w' := by
  go_enter Try.func15, Try.ntmps15
  go_wp2
  refine bodyPost_ret (v := .agg #[.int .i64 i, .int .i64 d, .int .i64 p]) (by simp [results, Try.results15, go_sem]) rfl ⟨rfl, ?_⟩
  (repeat (first | with_reducible assumption | exact Bw.refl _ | (with_reducible refine Bw.setCell ?_ (by simp) _) | (with_reducible refine Bw.alloc ?_ _) | (with_reducible refine Bw.drew ?_) | (with_reducible refine Bw.drewN ?_ _)))
theorem x_eqTimer (i d p : Int) (w : World) : Calls Try.prog 17 #[.agg #[.int .i64 i, .int .i64 d, .int .i64 p], .agg #[.int .i64 i, .int .i64 d, .int .i64 p]] w fun e w' => e = .returned (.bool true) ∧ (w.alloc (.cells #[.int .i64 i, .int .i64 d, .int .i64 p] 24)).alloc (.cells #[.int .i64 i, .int .i64 d, .int .i64 p] 24) = w' := by
  go_enter Try.func17, Try.ntmps17
  go_wp2
  go_ret
  refine ⟨rfl, rfl⟩
theorem c_eqTimer (i d p : Int) (w : World) : Calls Try.prog 17 #[.agg #[.int .i64 i, .int .i64 d, .int .i64 p], .agg #[.int .i64 i, .int .i64 d, .int .i64 p]] w fun e w' => e = .returned (.bool true) ∧ Bw w w' := by
  go_enter Try.func17, Try.ntmps17
  go_wp2
  go_ret
  refine ⟨rfl, ?_⟩
  (repeat (first | with_reducible assumption | exact Bw.refl _ | (with_reducible refine Bw.setCell ?_ (by simp) _) | (with_reducible refine Bw.alloc ?_ _) | (with_reducible refine Bw.drew ?_) | (with_reducible refine Bw.drewN ?_ _)))
theorem c_szTimerS (A : Option Addr) (n c : Nat) (hm : n ≤ 9223372036854775807) (w : World) : Calls Try.prog 18 #[.slice A n c, .int .i64 1048576] w fun e w' => (∃ m : Int, e = .returned (.int .i64 m) ∧ (m < 0 ∨ n ≤ 1048576)) ∧ w = w' := by
  go_enter Try.func18, Try.ntmps18
  by_cases h : n ≤ 1048576
  all_goals
    go_wp2
    go_ret
    refine ⟨⟨_, rfl, by omega⟩, rfl⟩
theorem Row.timer {w : World} {lo : Nat} {e : TypeId} {A : Option Addr} {n c : Nat} {ts : List Timer} (h : Row w lo e 3 Timer.cells A n c ts) (hn : 0 < n) :
    ∃ g, A = some ⟨g, 0, none⟩ ∧ lo ≤ g ∧ g < w.heap.size ∧ (∀ j, w.frozen? ⟨g, j, none⟩ = false) ∧ ∀ k, k < n → w.cell? ⟨g, k * 3, none⟩ = some (.int .i64 (tAt ts k).id) ∧ w.cell? ⟨g, k * 3 + 1, none⟩ = some (.int .i64 (tAt ts k).due) ∧ w.cell? ⟨g, k * 3 + 2, none⟩ = some (.int .i64 (tAt ts k).per) := by
  obtain ⟨g, rfl, hlo, hlt⟩ := h.form hn
  obtain ⟨b, off, hA, _, hc⟩ := (h.rd (enc := Timer.cells) (sz := 3) (fun _ => rfl)).timer hn
  simp only [Option.some.injEq, Addr.mk.injEq, and_true] at hA
  obtain ⟨rfl, rfl⟩ := hA
  exact ⟨g, rfl, hlo, hlt, fun j => h.frozen j, fun k hk => by simpa using hc k hk⟩
theorem infoTimer : (Try.prog.info? 24).map (fun i => (i.zero, i.size, i.bytes)) = some (some (.agg #[.int .i64 0, .int .i64 0, .int .i64 0]), 3, 24) := by kernel_rfl
theorem c_toTimerS (A : Option Addr) (n c : Nat) (ts : List Timer) (w : World) (hm : n ≤ 1048576) (h : Rd w A n 3 (ts.map Timer.cells)) :
    Calls Try.prog 20 #[.slice A n c] w fun e w' => (∃ A' c', e = .returned (.slice A' n c') ∧ Row w' w.heap.size 24 3 Timer.cells A' n c' ts) ∧ Bw w w' := by
  have hl := Lib.hid h.tlen
  obtain ⟨i0, hi, hz0, hz1, hz2⟩ := info_parts infoTimer
  have hmk : ∀ W, (Instr.makeSlice 33 (.int .i64 (n : Int)) (.int .i64 (n : Int))).run Try.prog W = .ok (.slice (some ⟨W.heap.size, 0, none⟩) n n) (W.alloc (.cells (madeCells #[.int .i64 0, .int .i64 0, .int .i64 0] (n * 3)) 24)) := fun W => by
    have := run_make (P := Try.prog) W 33 24 i0 _ Try.underlying33 hi hz0 .i64 .i64 n n (by omega) (by omega) (by rw [hz2]; omega) (by omega)
    rw [hz1] at this
    exact this
  clear hi hz0 hz1 hz2
  go_enter Try.func20, Try.ntmps20
  go_wp2
  go_loopw [4] (fun i wr => ∃ k : Nat, k ≤ n ∧ i = .int .i64 k ∧ Row wr w.heap.size 24 3 Timer.cells (some ⟨w.heap.size, 0, none⟩) n n (mix ⟨0, 0, 0⟩ n k ts) ∧ Bw w wr) (fun i _ => n - (intOf i).toNat)
  case atStart =>
    refine ⟨0, Nat.zero_le _, rfl, ⟨?_, by simp [mix]⟩, (Bw.refl _).alloc _⟩
    have := World.ownsRow_lit (base := w.heap.size) (e := 24) (size := 3) w (madeCells #[.int .i64 0, .int .i64 0, .int .i64 0] (n * 3)) n (Nat.le_refl _) (by unfold maxLen; omega) (size_madeCells _ _)
    have e1 := madeCells_flat #[.int .i64 0, .int .i64 0, .int .i64 0] (by simp) n
    have e2 : (#[Value.int .i64 0, .int .i64 0, .int .i64 0] : Array Value).size = 3 := rfl
    rw [e2] at e1
    rw [e1] at this
    rw [mix_zero, List.flatMap_replicate]
    exact this
  case round =>
    obtain ⟨k, hk, rfl, hrow, hbl⟩ := hrel
    by_cases hlt : k < n
    · obtain ⟨b, off, rfl, hb, hc⟩ := (h.keep hbl).timer (by omega)
      have ⟨h0, h1, h2⟩ := hc k hlt
      clear hc
      go_wp2_with (go_at_call 15; refine (c_toTimer _ _ _ _).mono ?_; rintro e w1 ⟨rfl, hb1⟩; have hrow1 := hrow.keep hb1; obtain ⟨g, hg, hlo, hgl, hfz, hcc⟩ := hrow1.timer (by omega); obtain rfl : w.heap.size = g := (by simpa using hg); have ⟨q0, q1, q2⟩ := hcc k hlt; clear hcc)
      go_roundw
      case rel => 
        have hs := hrow1.set3 (fun _ => rfl) hlt (t := tAt ts k) rfl
        refine ⟨k + 1, by omega, by go_num, ?_, (hbl.trans hb1).grown hs.2 (by simp)⟩
        rw [← mix_succ _ _ _ _ hl.out hlt]
        exact hs.1
      case measure => simp [intOf]; omega
    · go_wp2
      go_ret
      obtain rfl : k = n := by omega
      rw [mix_all _ _ _ hl.out] at hrow
      exact ⟨⟨_, _, rfl, hrow⟩, hbl⟩
theorem c_eqTimerS (A A' : Option Addr) (n c c' : Nat) (ts : List Timer) (w : World) (hm : n ≤ 9223372036854775807) (h : Rd w A n 3 (ts.map Timer.cells)) (h' : Rd w A' n 3 (ts.map Timer.cells)) :
    Calls Try.prog 22 #[.slice A n c, .slice A' n c'] w fun e w' => e = .returned (.bool true) ∧ Bw w w' := by
  go_enter Try.func22, Try.ntmps22
  go_wp2
  go_loopw [5] (fun i wr => ∃ k : Nat, k ≤ n ∧ i = .int .i64 k ∧ Bw w wr) (fun i _ => n - (intOf i).toNat)
  case atStart => exact ⟨0, Nat.zero_le _, rfl, Bw.refl _⟩
  case round =>
    obtain ⟨k, hk, rfl, hbl⟩ := hrel
    by_cases hlt : k < n
    · obtain ⟨b, off, rfl, hb, hc⟩ := (h.keep hbl).timer (by omega)
      obtain ⟨b', off', rfl, hb', hc'⟩ := (h'.keep hbl).timer (by omega)
      have ⟨h0, h1, h2⟩ := hc k hlt
      have ⟨p0, p1, p2⟩ := hc' k hlt
      clear hc hc'
      go_wp2
      (refine wp_region_ext (by kernel_rfl) (by kernel_rfl) ?_; (repeat (go_big_quiet_step (exact Ext.calls (c_eqTimer _ _ _ _)))); (with_reducible refine wpQuiet_nil ?_); intro w2 hb2)
      go_wp2
      go_roundw
      case rel => exact ⟨k + 1, by omega, by go_num, hbl.trans hb2⟩
      case measure => simp [intOf]; omega
    · go_wp2
      go_ret
      exact ⟨rfl, hbl⟩
def marksT : Nat → Int → List Timer
  | 0, _ => []
  | n + 1, k => ⟨k, k + 1, k + 1 + 1⟩ :: marksT n (k + 3)
theorem marksT_len (n : Nat) (k : Int) : (marksT n k).length = n := by
  induction n generalizing k with
  | zero => rfl
  | succ n ih => simp [marksT, ih]
theorem marksT_get (n : Nat) (k : Int) (j : Nat) (hj : j < n) : tAt (marksT n k) j = ⟨k + 3 * j, k + 3 * j + 1, k + 3 * j + 1 + 1⟩ := by
  induction n generalizing k j with
  | zero => omega
  | succ n ih =>
    cases j with
    | zero => simp [marksT, tAt]
    | succ j =>
      have := ih (k + 3) j (by omega)
      simp only [tAt, marksT, List.getD_cons_succ] at this ⊢
      rw [this]
      simp; omega
theorem c_markTimerS (A : Option Addr) (n c : Nat) (ts : List Timer) (k0 : Int) (lo : Nat) (w : World) (hn : n ≤ 1048576) (hk0 : 0 ≤ k0) (hk1 : k0 ≤ 1000000000) (h : Row w lo 24 3 Timer.cells A n c ts) :
    Calls Try.prog 27 #[.slice A n c, .int .i64 k0] w fun e w' => e = .returned (.int .i64 (k0 + 3 * n)) ∧ Row w' lo 24 3 Timer.cells A n c (marksT n k0) ∧ w.grownBy w' (Value.ownBlock (.slice A n c)) := by
  have hl := Lib.hid h.len
  have hml := Lib.hid (marksT_len n k0)
  go_enter Try.func27, Try.ntmps27
  go_wp2
  go_loopw [1, 5] (fun kv i wr => ∃ k : Nat, k ≤ n ∧ i = .int .i64 k ∧ kv = .int .i64 (k0 + 3 * k) ∧ Row wr lo 24 3 Timer.cells A n c ((marksT n k0).take k ++ ts.drop k) ∧ w.grownBy wr (Value.ownBlock (.slice A n c))) (fun _ i _ => n - (intOf i).toNat)
  case atStart => exact ⟨0, Nat.zero_le _, rfl, by simp, by simpa using h, World.grownBy.refl _ _⟩
  case round =>
    obtain ⟨k, hk, rfl, rfl, hrow, hg⟩ := hrel
    by_cases hlt : k < n
    · obtain ⟨g, rfl, hlo, hgl, hfz, hcc⟩ := hrow.timer (by omega)
      have ⟨q0, q1, q2⟩ := hcc k hlt
      clear hcc
      go_wp2
      go_roundw
      case rel =>
        have hs := hrow.set3 (a := .int .i64 (k0 + 3 * k)) (b := .int .i64 (k0 + 3 * k + 1)) (d := .int .i64 (k0 + 3 * k + 1 + 1)) (fun _ => rfl) hlt (t := tAt (marksT n k0) k) (by rw [marksT_get _ _ _ hlt]; rfl)
        refine ⟨k + 1, by omega, by go_num, by congr 1; omega, ?_, hg.trans hs.2⟩
        have e1 : ((marksT n k0).take k ++ ts.drop k).set k (tAt (marksT n k0) k) = (marksT n k0).take (k + 1) ++ ts.drop (k + 1) := by
          have hm := hml.out
          have ht := hl.out
          have h1 : ((marksT n k0).take k).length = k := by simp; omega
          rw [List.set_append_right _ _ (by omega), h1, Nat.sub_self, List.take_succ_eq_append_getElem (by omega), List.drop_eq_getElem_cons (by omega), List.set_cons_zero, List.append_assoc]
          simp [tAt, show k < (marksT n k0).length by omega]
        rw [← e1]
        exact hs.1
      case measure => simp [intOf]; omega
    · go_wp2
      go_ret
      obtain rfl : k = n := by omega
      have hm := hml.out
      have ht := hl.out
      rw [List.take_of_length_le (by omega), List.drop_eq_nil_of_le (by omega), List.append_nil] at hrow
      exact ⟨rfl, hrow, hg⟩
theorem c_heldTimerS (A : Option Addr) (n c : Nat) (k0 : Int) (w : World) (hn : n ≤ 1048576) (hk0 : 0 ≤ k0) (hk1 : k0 ≤ 1000000000) (h : Rd w A n 3 ((marksT n k0).map Timer.cells)) :
    Calls Try.prog 28 #[.slice A n c, .int .i64 k0] w fun e w' => e = .returned (.int .i64 (k0 + 3 * n)) ∧ w = w' := by
  go_enter Try.func28, Try.ntmps28
  go_wp2
  go_loop [1, 5] (fun kv i => ∃ k : Nat, k ≤ n ∧ i = .int .i64 k ∧ kv = .int .i64 (k0 + 3 * k)) (fun _ i => n - (intOf i).toNat)
  case atStart => exact ⟨0, Nat.zero_le _, rfl, by simp⟩
  case round =>
    obtain ⟨k, hk, rfl, rfl⟩ := hrel
    by_cases hlt : k < n
    · obtain ⟨b, off, rfl, hb, hc⟩ := h.timer (by omega)
      have ⟨h0, h1, h2⟩ := hc k hlt
      rw [marksT_get _ _ _ hlt] at h0 h1 h2
      clear hc
      go_wp2
      go_round
      case rel => exact ⟨k + 1, by omega, by go_num, by congr 1; omega⟩
      case measure => simp [intOf]; omega
    · go_wp2
      go_ret
      obtain rfl : k = n := by omega
      exact ⟨rfl, rfl⟩
end Go.Proofs.Ytdfjdfhldijjbaa
