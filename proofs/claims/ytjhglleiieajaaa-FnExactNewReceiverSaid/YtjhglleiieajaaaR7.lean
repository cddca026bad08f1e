
/- NewReceiver: both sides come to one function; the law's walk. -/
import Derived.Test.YtjhglleiieajaaaR1
import Derived.Test.YtjhglleiieajaaaK7
namespace Go.Proofs.Ytjhglleiieajaaa
open Go.RowKit
theorem n_eqSlotS (w : World) : Calls Try.prog 100 #[.slice none 0 0, .slice none 0 0] w fun e w' => e = .returned (.bool true) ∧ w = w' := by
  go_enter Try.func100, Try.ntmps100
  go_wp2
  go_loopw [5] (fun i wr => i = .int .i64 0 ∧ w = wr) (by intros; exact 0)
  case atStart => first | exact ⟨rfl, rfl⟩ | exact ⟨⟨rfl, rfl⟩, rfl⟩
  case round =>
    first | obtain ⟨⟨rfl, rfl⟩, rfl⟩ := hrel | obtain ⟨rfl, rfl⟩ := hrel
    go_wp2
    go_ret
    exact ⟨rfl, rfl⟩
theorem n_eqRequestS (w : World) : Calls Try.prog 18 #[.slice none 0 0, .slice none 0 0] w fun e w' => e = .returned (.bool true) ∧ w = w' := by
  go_enter Try.func18, Try.ntmps18
  go_wp2
  go_loopw [5] (fun i wr => i = .int .i64 0 ∧ w = wr) (by intros; exact 0)
  case atStart => first | exact ⟨rfl, rfl⟩ | exact ⟨⟨rfl, rfl⟩, rfl⟩
  case round =>
    first | obtain ⟨⟨rfl, rfl⟩, rfl⟩ := hrel | obtain ⟨rfl, rfl⟩ := hrel
    go_wp2
    go_ret
    exact ⟨rfl, rfl⟩
theorem n_markSlotS (w : World) : Calls Try.prog 101 #[.slice none 0 0, .int .i64 1] w fun e w' => e = .returned (.int .i64 1) ∧ w = w' := by
  go_enter Try.func101, Try.ntmps101
  go_wp2
  go_loopw [1, 5] (fun k i wr => (k = .int .i64 1 ∧ i = .int .i64 0) ∧ w = wr) (by intros; exact 0)
  case atStart => first | exact ⟨rfl, rfl⟩ | exact ⟨⟨rfl, rfl⟩, rfl⟩
  case round =>
    first | obtain ⟨⟨rfl, rfl⟩, rfl⟩ := hrel | obtain ⟨rfl, rfl⟩ := hrel
    go_wp2
    go_ret
    exact ⟨rfl, rfl⟩
theorem n_markRequestS (w : World) : Calls Try.prog 25 #[.slice none 0 0, .int .i64 1] w fun e w' => e = .returned (.int .i64 1) ∧ w = w' := by
  go_enter Try.func25, Try.ntmps25
  go_wp2
  go_loopw [1, 5] (fun k i wr => (k = .int .i64 1 ∧ i = .int .i64 0) ∧ w = wr) (by intros; exact 0)
  case atStart => first | exact ⟨rfl, rfl⟩ | exact ⟨⟨rfl, rfl⟩, rfl⟩
  case round =>
    first | obtain ⟨⟨rfl, rfl⟩, rfl⟩ := hrel | obtain ⟨rfl, rfl⟩ := hrel
    go_wp2
    go_ret
    exact ⟨rfl, rfl⟩
theorem n_heldSlotS (w : World) : Calls Try.prog 102 #[.slice none 0 0, .int .i64 1] w fun e w' => e = .returned (.int .i64 1) ∧ w = w' := by
  go_enter Try.func102, Try.ntmps102
  go_wp2
  go_loopw [1, 5] (fun k i wr => (k = .int .i64 1 ∧ i = .int .i64 0) ∧ w = wr) (by intros; exact 0)
  case atStart => first | exact ⟨rfl, rfl⟩ | exact ⟨⟨rfl, rfl⟩, rfl⟩
  case round =>
    first | obtain ⟨⟨rfl, rfl⟩, rfl⟩ := hrel | obtain ⟨rfl, rfl⟩ := hrel
    go_wp2
    go_ret
    exact ⟨rfl, rfl⟩
theorem n_heldRequestS (w : World) : Calls Try.prog 42 #[.slice none 0 0, .int .i64 1] w fun e w' => e = .returned (.int .i64 1) ∧ w = w' := by
  go_enter Try.func42, Try.ntmps42
  go_wp2
  go_loopw [1, 5] (fun k i wr => (k = .int .i64 1 ∧ i = .int .i64 0) ∧ w = wr) (by intros; exact 0)
  case atStart => first | exact ⟨rfl, rfl⟩ | exact ⟨⟨rfl, rfl⟩, rfl⟩
  case round =>
    first | obtain ⟨⟨rfl, rfl⟩, rfl⟩ := hrel | obtain ⟨rfl, rfl⟩ := hrel
    go_wp2
    go_ret
    exact ⟨rfl, rfl⟩
theorem n_eqReceiveWindow (w : World) : Calls Try.prog 81 #[.agg #[.int .i64 0, .slice none 0 0], .agg #[.int .i64 0, .slice none 0 0]] w fun e w' => e = .returned (.bool true) ∧ Bw w w' := by
  go_enter Try.func81, Try.ntmps81
  go_wp2_with (go_at_call 100; refine (n_eqSlotS _).mono ?_; rintro e w1 ⟨rfl, rfl⟩)
  go_ret
  exact ⟨rfl, by (repeat (first | with_reducible assumption | exact Bw.refl _ | (with_reducible refine Bw.setCell ?_ (by simp) _) | (with_reducible refine Bw.alloc ?_ _) | (with_reducible refine Bw.drew ?_) | (with_reducible refine Bw.drewN ?_ _)))⟩
theorem n_markReceiveWindow (w : World) : Calls Try.prog 82 #[.agg #[.int .i64 0, .slice none 0 0], .int .i64 1] w fun e w' => e = .returned (.int .i64 1) ∧ Bw w w' := by
  go_enter Try.func82, Try.ntmps82
  go_wp2_with (go_at_call 101; refine (n_markSlotS _).mono ?_; rintro e w1 ⟨rfl, rfl⟩)
  go_ret
  exact ⟨rfl, by (repeat (first | with_reducible assumption | exact Bw.refl _ | (with_reducible refine Bw.setCell ?_ (by simp) _) | (with_reducible refine Bw.alloc ?_ _) | (with_reducible refine Bw.drew ?_) | (with_reducible refine Bw.drewN ?_ _)))⟩
theorem n_heldReceiveWindow (w : World) : Calls Try.prog 83 #[.agg #[.int .i64 0, .slice none 0 0], .int .i64 1] w fun e w' => e = .returned (.int .i64 1) ∧ Bw w w' := by
  go_enter Try.func83, Try.ntmps83
  go_wp2_with (go_at_call 102; refine (n_heldSlotS _).mono ?_; rintro e w1 ⟨rfl, rfl⟩)
  go_ret
  exact ⟨rfl, by (repeat (first | with_reducible assumption | exact Bw.refl _ | (with_reducible refine Bw.setCell ?_ (by simp) _) | (with_reducible refine Bw.alloc ?_ _) | (with_reducible refine Bw.drew ?_) | (with_reducible refine Bw.drewN ?_ _)))⟩
def rcv (c : Int) : Value := .agg #[.bool false, .int .i64 c, .int .i64 0, .slice none 0 0, .slice none 0 0]
set_option maxRecDepth 100000 in
theorem n_eqReceiver (c : Int) (w : World) : Calls Try.prog 45 #[rcv c, rcv c] w fun e w' => e = .returned (.bool true) ∧ Bw w w' := by
  unfold rcv
  go_enter Try.func45, Try.ntmps45
  go_wp2_with (first | (go_at_call 81; refine (n_eqReceiveWindow _).mono ?_; rintro e w1 ⟨rfl, hb1⟩; have b0 := hb1.cellv (p := ⟨w.heap.size, 4, none⟩) (v := .slice none 0 0) (by go_simp); have b1 := hb1.cellv (p := ⟨w.heap.size + 1, 4, none⟩) (v := .slice none 0 0) (by go_simp)) | (go_at_call 18; refine (n_eqRequestS _).mono ?_; rintro e w1 ⟨rfl, rfl⟩))
  go_ret
  exact ⟨rfl, Bw.trans (by (repeat (first | with_reducible assumption | exact Bw.refl _ | (with_reducible refine Bw.setCell ?_ (by simp) _) | (with_reducible refine Bw.alloc ?_ _) | (with_reducible refine Bw.drew ?_) | (with_reducible refine Bw.drewN ?_ _)))) hb1⟩
set_option maxRecDepth 100000 in
theorem n_markReceiver (c : Int) (w : World) : Calls Try.prog 46 #[rcv c, .int .i64 1] w fun e w' => e = .returned (.int .i64 1) ∧ Bw w w' := by
  unfold rcv
  go_enter Try.func46, Try.ntmps46
  go_wp2_with (first | (go_at_call 82; refine (n_markReceiveWindow _).mono ?_; rintro e w1 ⟨rfl, hb1⟩; have b0 := hb1.cellv (p := ⟨w.heap.size, 4, none⟩) (v := .slice none 0 0) (by go_simp)) | (go_at_call 25; refine (n_markRequestS _).mono ?_; rintro e w1 ⟨rfl, rfl⟩))
  go_ret
  exact ⟨rfl, Bw.trans (by (repeat (first | with_reducible assumption | exact Bw.refl _ | (with_reducible refine Bw.setCell ?_ (by simp) _) | (with_reducible refine Bw.alloc ?_ _) | (with_reducible refine Bw.drew ?_) | (with_reducible refine Bw.drewN ?_ _)))) hb1⟩
set_option maxRecDepth 100000 in
theorem n_heldReceiver (c : Int) (w : World) : Calls Try.prog 47 #[rcv c, .int .i64 1] w fun e w' => e = .returned (.int .i64 1) ∧ Bw w w' := by
  unfold rcv
  go_enter Try.func47, Try.ntmps47
  go_wp2_with (first | (go_at_call 83; refine (n_heldReceiveWindow _).mono ?_; rintro e w1 ⟨rfl, hb1⟩; have b0 := hb1.cellv (p := ⟨w.heap.size, 4, none⟩) (v := .slice none 0 0) (by go_simp)) | (go_at_call 42; refine (n_heldRequestS _).mono ?_; rintro e w1 ⟨rfl, rfl⟩))
  go_ret
  exact ⟨rfl, Bw.trans (by (repeat (first | with_reducible assumption | exact Bw.refl _ | (with_reducible refine Bw.setCell ?_ (by simp) _) | (with_reducible refine Bw.alloc ?_ _) | (with_reducible refine Bw.drew ?_) | (with_reducible refine Bw.drewN ?_ _)))) hb1⟩
def newRC (c : Int) : Int := if inR c 0 9999 then c else 0
theorem c_sNewReceiver (c : Int) (w : World) : Calls Try.prog 43 #[.int .i64 c] w fun e w' => e = .returned (.tuple #[rcv (newRC c), .bool (inR c 0 9999)]) ∧ Bw w w' := by
  unfold rcv
  cases hc : inR c 0 9999 <;> simp only [newRC, hc]
  all_goals (go_enter Try.func43, Try.ntmps43; go_wp2_with (go_at_call 61; refine (c_l11Clock _ hc _).mono ?_; rintro e w1 ⟨rfl, rfl⟩))
  · exact bodyPost_ret (v := .tuple #[.agg #[.bool false, .int .i64 0, .int .i64 0, .slice none 0 0, .slice none 0 0], .bool false]) (by simp [results, Try.results43, go_sem]) rfl ⟨rfl, by (repeat (first | with_reducible assumption | exact Bw.refl _ | (with_reducible refine Bw.setCell ?_ (by simp) _) | (with_reducible refine Bw.alloc ?_ _) | (with_reducible refine Bw.drew ?_) | (with_reducible refine Bw.drewN ?_ _)))⟩
  · exact bodyPost_ret (v := .tuple #[.agg #[.bool false, .int .i64 c, .int .i64 0, .slice none 0 0, .slice none 0 0], .bool true]) (by simp [results, Try.results43, go_sem]) rfl ⟨rfl, by (repeat (first | with_reducible assumption | exact Bw.refl _ | (with_reducible refine Bw.setCell ?_ (by simp) _) | (with_reducible refine Bw.alloc ?_ _) | (with_reducible refine Bw.drew ?_) | (with_reducible refine Bw.drewN ?_ _)))⟩
theorem c_iNewReceiver (c : Int) (w : World) : Calls Try.prog 44 #[.int .i64 c] w fun e w' => e = .returned (.tuple #[rcv (newRC c), .bool (inR c 0 9999)]) ∧ Bw w w' := by
  unfold rcv
  cases hc : inR c 0 9999 <;> simp only [newRC, hc]
  all_goals (go_enter Try.func44, Try.ntmps44; go_wp2_with (go_at_call 62; refine (c_isClock _ hc _).mono ?_; rintro e w1 ⟨rfl, rfl⟩))
  · exact bodyPost_ret (v := .tuple #[.agg #[.bool false, .int .i64 0, .int .i64 0, .slice none 0 0, .slice none 0 0], .bool false]) (by simp [results, Try.results44, go_sem]) rfl ⟨rfl, by (repeat (first | with_reducible assumption | exact Bw.refl _ | (with_reducible refine Bw.setCell ?_ (by simp) _) | (with_reducible refine Bw.alloc ?_ _) | (with_reducible refine Bw.drew ?_) | (with_reducible refine Bw.drewN ?_ _)))⟩
  · exact bodyPost_ret (v := .tuple #[.agg #[.bool false, .int .i64 c, .int .i64 0, .slice none 0 0, .slice none 0 0], .bool true]) (by simp [results, Try.results44, go_sem]) rfl ⟨rfl, by (repeat (first | with_reducible assumption | exact Bw.refl _ | (with_reducible refine Bw.setCell ?_ (by simp) _) | (with_reducible refine Bw.alloc ?_ _) | (with_reducible refine Bw.drew ?_) | (with_reducible refine Bw.drewN ?_ _)))⟩
end Go.Proofs.Ytjhglleiieajaaa
