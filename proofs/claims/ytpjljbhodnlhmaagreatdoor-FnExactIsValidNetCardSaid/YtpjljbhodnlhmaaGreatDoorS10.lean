
/- Packets: which are valid; the laws' copies. -/
import Derived.Test.YtpjljbhodnlhmaaGreatDoorS8
namespace Go.Proofs.YtpjljbhodnlhmaaGreatDoor
open Go.RowKit
def pkB (k nu tr le : Int) (d : ByteArray) : Bool := inR k 1 5 && (inR nu 0 65535 && (inR tr 0 65535 && (inR le 0 65535 && (itemB d && (decide (gapI tr le ≤ 32767) && (d.toList.isEmpty || (k == 1 || k == 2)))))))
set_option maxRecDepth 100000 in
set_option maxHeartbeats 2000000 in
theorem c_l4Good (k nu tr le : Int) (d : ByteArray) (hd : d.size ≤ maxLen) {r : Bool} (hr : pkB k nu tr le d = r) (w : World) :
    Calls Tryz.prog 150 #[.agg #[.int .i64 k, .int .i64 nu, .int .i64 tr, .int .i64 le, .string d]] w fun e w' => e = .returned (.bool r) ∧ Bw w w' := by
  subst hr
  cases h1 : inR k 1 5 <;> cases h2 : inR nu 0 65535 <;> cases h3 : inR tr 0 65535 <;> cases h4 : inR le 0 65535
  all_goals (first | (have HR := Lib.hid (show pkB k nu tr le d = false from by first | (simp [pkB, h1]; done) | (simp [pkB, h2]; done) | (simp [pkB, h3]; done) | (simp [pkB, h4]; done)); go_enter Tryz.func150, Tryz.ntmps150; (go_wp2_with (first | (go_at_call 53; refine (c_l1In _ _ _ h1 _).mono ?_; rintro e w1 ⟨rfl, rfl⟩) | (go_at_call 99; first | ((with_reducible refine (c_l2Good nu h2 _).mono ?_); rintro e w1 ⟨rfl, rfl⟩) | ((with_reducible refine (c_l2Good tr h3 _).mono ?_); rintro e w1 ⟨rfl, rfl⟩) | ((with_reducible refine (c_l2Good le h4 _).mono ?_); rintro e w1 ⟨rfl, rfl⟩)))); (go_ret); exact ⟨ret_bool HR.out.symm, by (repeat (first | with_reducible assumption | exact Bw.refl _ | (with_reducible refine Bw.setCell ?_ (by simp) _) | (with_reducible refine Bw.alloc ?_ _) | (with_reducible refine Bw.drew ?_) | (with_reducible refine Bw.drewN ?_ _)))⟩) | skip)
  have ⟨a0, a1⟩ := inR_iff.1 h3
  have ⟨b0, b1⟩ := inR_iff.1 h4
  have HR := Lib.hid (show pkB k nu tr le d = (itemB d && (decide (gapI tr le ≤ 32767) && (d.toList.isEmpty || (k == 1 || k == 2)))) by simp only [pkB, h1, h2, h3, h4, Bool.true_and])
  generalize pkB k nu tr le d = r at *
  cases h5 : itemB d
  · rw [h5, Bool.false_and] at HR
    skip
    go_enter Tryz.func150, Tryz.ntmps150
    go_wp2_with (first | (go_at_call 53; refine (c_l1In _ _ _ h1 _).mono ?_; rintro e w1 ⟨rfl, rfl⟩) | (go_at_call 99; first | ((with_reducible refine (c_l2Good nu h2 _).mono ?_); rintro e w1 ⟨rfl, rfl⟩) | ((with_reducible refine (c_l2Good tr h3 _).mono ?_); rintro e w1 ⟨rfl, rfl⟩) | ((with_reducible refine (c_l2Good le h4 _).mono ?_); rintro e w1 ⟨rfl, rfl⟩)) | (go_at_call 101; refine (c_l2Gap _ _ rfl a0 a1 b0 b1 _).mono ?_; rintro e w1 ⟨rfl, rfl⟩) | (go_at_call 140; refine (c_l4Letters _ hd h5 _).mono ?_; rintro e w1 ⟨rfl, rfl⟩))
    all_goals
      go_ret
      exact ⟨ret_bool (by first | exact HR.out.symm | (rw [HR.out]; done) | (rw [HR.out, Bool.or_assoc]; done) | (rw [HR.out]; simp_all; done)), by (repeat (first | with_reducible assumption | exact Bw.refl _ | (with_reducible refine Bw.setCell ?_ (by simp) _) | (with_reducible refine Bw.alloc ?_ _) | (with_reducible refine Bw.drew ?_) | (with_reducible refine Bw.drewN ?_ _)))⟩
  by_cases h6 : gapI tr le ≤ 32767
  · rw [h5, decide_eq_true h6, Bool.true_and, Bool.true_and] at HR
    have h6' : ¬ (32767 : Int) < gapI tr le := by omega
    skip
    go_enter Tryz.func150, Tryz.ntmps150
    go_wp2_with (first | (go_at_call 53; refine (c_l1In _ _ _ h1 _).mono ?_; rintro e w1 ⟨rfl, rfl⟩) | (go_at_call 99; first | ((with_reducible refine (c_l2Good nu h2 _).mono ?_); rintro e w1 ⟨rfl, rfl⟩) | ((with_reducible refine (c_l2Good tr h3 _).mono ?_); rintro e w1 ⟨rfl, rfl⟩) | ((with_reducible refine (c_l2Good le h4 _).mono ?_); rintro e w1 ⟨rfl, rfl⟩)) | (go_at_call 101; refine (c_l2Gap _ _ rfl a0 a1 b0 b1 _).mono ?_; rintro e w1 ⟨rfl, rfl⟩) | (go_at_call 140; refine (c_l4Letters _ hd h5 _).mono ?_; rintro e w1 ⟨rfl, rfl⟩))
    all_goals
      go_ret
      exact ⟨ret_bool (by first | exact HR.out.symm | (rw [HR.out]; done) | (rw [HR.out, Bool.or_assoc]; done) | (rw [HR.out]; simp_all; done)), by (repeat (first | with_reducible assumption | exact Bw.refl _ | (with_reducible refine Bw.setCell ?_ (by simp) _) | (with_reducible refine Bw.alloc ?_ _) | (with_reducible refine Bw.drew ?_) | (with_reducible refine Bw.drewN ?_ _)))⟩
  · rw [h5, decide_eq_false h6, Bool.true_and, Bool.false_and] at HR
    have h6' : (32767 : Int) < gapI tr le := by omega
    skip
    go_enter Tryz.func150, Tryz.ntmps150
    go_wp2_with (first | (go_at_call 53; refine (c_l1In _ _ _ h1 _).mono ?_; rintro e w1 ⟨rfl, rfl⟩) | (go_at_call 99; first | ((with_reducible refine (c_l2Good nu h2 _).mono ?_); rintro e w1 ⟨rfl, rfl⟩) | ((with_reducible refine (c_l2Good tr h3 _).mono ?_); rintro e w1 ⟨rfl, rfl⟩) | ((with_reducible refine (c_l2Good le h4 _).mono ?_); rintro e w1 ⟨rfl, rfl⟩)) | (go_at_call 101; refine (c_l2Gap _ _ rfl a0 a1 b0 b1 _).mono ?_; rintro e w1 ⟨rfl, rfl⟩) | (go_at_call 140; refine (c_l4Letters _ hd h5 _).mono ?_; rintro e w1 ⟨rfl, rfl⟩))
    all_goals
      go_ret
      exact ⟨ret_bool (by first | exact HR.out.symm | (rw [HR.out]; done) | (rw [HR.out, Bool.or_assoc]; done) | (rw [HR.out]; simp_all; done)), by (repeat (first | with_reducible assumption | exact Bw.refl _ | (with_reducible refine Bw.setCell ?_ (by simp) _) | (with_reducible refine Bw.alloc ?_ _) | (with_reducible refine Bw.drew ?_) | (with_reducible refine Bw.drewN ?_ _)))⟩
set_option maxRecDepth 100000 in
set_option maxHeartbeats 2000000 in
theorem c_IsValidPacket (k nu tr le : Int) (d : ByteArray) (hd : d.size ≤ maxLen) {r : Bool} (hr : pkB k nu tr le d = r) (w : World) :
    Calls Tryz.prog 129 #[.agg #[.int .i64 k, .int .i64 nu, .int .i64 tr, .int .i64 le, .string d]] w fun e w' => e = .returned (.bool r) ∧ Bw w w' := by
  subst hr
  cases h1 : inR k 1 5 <;> cases h2 : inR nu 0 65535 <;> cases h3 : inR tr 0 65535 <;> cases h4 : inR le 0 65535
  all_goals (first | (have HR := Lib.hid (show pkB k nu tr le d = false from by first | (simp [pkB, h1]; done) | (simp [pkB, h2]; done) | (simp [pkB, h3]; done) | (simp [pkB, h4]; done)); go_enter Tryz.func129, Tryz.ntmps129; (go_wp2_with (first | (go_at_call 54; refine (c_within _ _ _ h1 _).mono ?_; rintro e w1 ⟨rfl, rfl⟩) | (go_at_call 86; first | ((with_reducible refine (c_IsSerial nu h2 _).mono ?_); rintro e w1 ⟨rfl, rfl⟩) | ((with_reducible refine (c_IsSerial tr h3 _).mono ?_); rintro e w1 ⟨rfl, rfl⟩) | ((with_reducible refine (c_IsSerial le h4 _).mono ?_); rintro e w1 ⟨rfl, rfl⟩)))); (go_ret); exact ⟨ret_bool HR.out.symm, by (repeat (first | with_reducible assumption | exact Bw.refl _ | (with_reducible refine Bw.setCell ?_ (by simp) _) | (with_reducible refine Bw.alloc ?_ _) | (with_reducible refine Bw.drew ?_) | (with_reducible refine Bw.drewN ?_ _)))⟩) | skip)
  have ⟨a0, a1⟩ := inR_iff.1 h3
  have ⟨b0, b1⟩ := inR_iff.1 h4
  have HR := Lib.hid (show pkB k nu tr le d = (itemB d && (decide (gapI tr le ≤ 32767) && (d.toList.isEmpty || (k == 1 || k == 2)))) by simp only [pkB, h1, h2, h3, h4, Bool.true_and])
  generalize pkB k nu tr le d = r at *
  cases h5 : itemB d
  · rw [h5, Bool.false_and] at HR
    skip
    go_enter Tryz.func129, Tryz.ntmps129
    go_wp2_with (first | (go_at_call 54; refine (c_within _ _ _ h1 _).mono ?_; rintro e w1 ⟨rfl, rfl⟩) | (go_at_call 86; first | ((with_reducible refine (c_IsSerial nu h2 _).mono ?_); rintro e w1 ⟨rfl, rfl⟩) | ((with_reducible refine (c_IsSerial tr h3 _).mono ?_); rintro e w1 ⟨rfl, rfl⟩) | ((with_reducible refine (c_IsSerial le h4 _).mono ?_); rintro e w1 ⟨rfl, rfl⟩)) | (go_at_call 88; refine (c_gap _ _ rfl a0 a1 b0 b1 _).mono ?_; rintro e w1 ⟨rfl, rfl⟩) | (go_at_call 157; refine (c_isItem _ hd h5 _).mono ?_; rintro e w1 ⟨rfl, hb1⟩; have q0 := hb1.cellv (p := ⟨w.heap.size, 0, none⟩) (v := .int .i64 k) (by go_simp); have q2 := hb1.cellv (p := ⟨w.heap.size, 2, none⟩) (v := .int .i64 tr) (by go_simp); have q3 := hb1.cellv (p := ⟨w.heap.size, 3, none⟩) (v := .int .i64 le) (by go_simp); have q4 := hb1.cellv (p := ⟨w.heap.size, 4, none⟩) (v := .string d) (by go_simp); have kk := Bw.trans (Bw.alloc (Bw.refl w) _) hb1))
    all_goals
      go_ret
      exact ⟨ret_bool (by first | exact HR.out.symm | (rw [HR.out]; done) | (rw [HR.out, Bool.or_assoc]; done) | (rw [HR.out]; simp_all; done)), by (repeat (first | with_reducible assumption | exact Bw.refl _ | (with_reducible refine Bw.setCell ?_ (by simp) _) | (with_reducible refine Bw.alloc ?_ _) | (with_reducible refine Bw.drew ?_) | (with_reducible refine Bw.drewN ?_ _)))⟩
  by_cases h6 : gapI tr le ≤ 32767
  · rw [h5, decide_eq_true h6, Bool.true_and, Bool.true_and] at HR
    skip
    go_enter Tryz.func129, Tryz.ntmps129
    go_wp2_with (first | (go_at_call 54; refine (c_within _ _ _ h1 _).mono ?_; rintro e w1 ⟨rfl, rfl⟩) | (go_at_call 86; first | ((with_reducible refine (c_IsSerial nu h2 _).mono ?_); rintro e w1 ⟨rfl, rfl⟩) | ((with_reducible refine (c_IsSerial tr h3 _).mono ?_); rintro e w1 ⟨rfl, rfl⟩) | ((with_reducible refine (c_IsSerial le h4 _).mono ?_); rintro e w1 ⟨rfl, rfl⟩)) | (go_at_call 88; refine (c_gap _ _ rfl a0 a1 b0 b1 _).mono ?_; rintro e w1 ⟨rfl, rfl⟩) | (go_at_call 157; refine (c_isItem _ hd h5 _).mono ?_; rintro e w1 ⟨rfl, hb1⟩; have q0 := hb1.cellv (p := ⟨w.heap.size, 0, none⟩) (v := .int .i64 k) (by go_simp); have q2 := hb1.cellv (p := ⟨w.heap.size, 2, none⟩) (v := .int .i64 tr) (by go_simp); have q3 := hb1.cellv (p := ⟨w.heap.size, 3, none⟩) (v := .int .i64 le) (by go_simp); have q4 := hb1.cellv (p := ⟨w.heap.size, 4, none⟩) (v := .string d) (by go_simp); have kk := Bw.trans (Bw.alloc (Bw.refl w) _) hb1))
    all_goals
      go_ret
      exact ⟨ret_bool (by first | exact HR.out.symm | (rw [HR.out]; done) | (rw [HR.out, Bool.or_assoc]; done) | (rw [HR.out]; simp_all; done)), by (repeat (first | with_reducible assumption | exact Bw.refl _ | (with_reducible refine Bw.setCell ?_ (by simp) _) | (with_reducible refine Bw.alloc ?_ _) | (with_reducible refine Bw.drew ?_) | (with_reducible refine Bw.drewN ?_ _)))⟩
  · rw [h5, decide_eq_false h6, Bool.true_and, Bool.false_and] at HR
    skip
    go_enter Tryz.func129, Tryz.ntmps129
    go_wp2_with (first | (go_at_call 54; refine (c_within _ _ _ h1 _).mono ?_; rintro e w1 ⟨rfl, rfl⟩) | (go_at_call 86; first | ((with_reducible refine (c_IsSerial nu h2 _).mono ?_); rintro e w1 ⟨rfl, rfl⟩) | ((with_reducible refine (c_IsSerial tr h3 _).mono ?_); rintro e w1 ⟨rfl, rfl⟩) | ((with_reducible refine (c_IsSerial le h4 _).mono ?_); rintro e w1 ⟨rfl, rfl⟩)) | (go_at_call 88; refine (c_gap _ _ rfl a0 a1 b0 b1 _).mono ?_; rintro e w1 ⟨rfl, rfl⟩) | (go_at_call 157; refine (c_isItem _ hd h5 _).mono ?_; rintro e w1 ⟨rfl, hb1⟩; have q0 := hb1.cellv (p := ⟨w.heap.size, 0, none⟩) (v := .int .i64 k) (by go_simp); have q2 := hb1.cellv (p := ⟨w.heap.size, 2, none⟩) (v := .int .i64 tr) (by go_simp); have q3 := hb1.cellv (p := ⟨w.heap.size, 3, none⟩) (v := .int .i64 le) (by go_simp); have q4 := hb1.cellv (p := ⟨w.heap.size, 4, none⟩) (v := .string d) (by go_simp); have kk := Bw.trans (Bw.alloc (Bw.refl w) _) hb1))
    all_goals
      go_ret
      exact ⟨ret_bool (by first | exact HR.out.symm | (rw [HR.out]; done) | (rw [HR.out, Bool.or_assoc]; done) | (rw [HR.out]; simp_all; done)), by (repeat (first | with_reducible assumption | exact Bw.refl _ | (with_reducible refine Bw.setCell ?_ (by simp) _) | (with_reducible refine Bw.alloc ?_ _) | (with_reducible refine Bw.drew ?_) | (with_reducible refine Bw.drewN ?_ _)))⟩
theorem c_toPacket (k nu tr le : Int) (d : ByteArray) (w : World) : Calls Tryz.prog 125 #[.agg #[.int .i64 k, .int .i64 nu, .int .i64 tr, .int .i64 le, .string d]] w fun e w' => e = .returned (.agg #[.int .i64 k, .int .i64 nu, .int .i64 tr, .int .i64 le, .string d]) ∧ Bw w w' := by
  go_enter Tryz.func125, Tryz.ntmps125
  go_wp2
  refine bodyPost_ret (v := .agg #[.int .i64 k, .int .i64 nu, .int .i64 tr, .int .i64 le, .string d]) (by simp [results, Tryz.results125, go_sem]) rfl ⟨rfl, ?_⟩
  (repeat (first | with_reducible assumption | exact Bw.refl _ | (with_reducible refine Bw.setCell ?_ (by simp) _) | (with_reducible refine Bw.alloc ?_ _) | (with_reducible refine Bw.drew ?_) | (with_reducible refine Bw.drewN ?_ _)))
theorem c_szPacket (k nu tr le : Int) (d : ByteArray) (hd : d.size ≤ maxLen) (x : Int) (h0 : 0 ≤ x) (h1 : x ≤ 1048576) (w : World) : Calls Tryz.prog 115 #[.agg #[.int .i64 k, .int .i64 nu, .int .i64 tr, .int .i64 le, .string d], .int .i64 x] w fun e w' => (∃ m : Int, e = .returned (.int .i64 m)) ∧ Bw w w' := by
  unfold maxLen at hd
  go_enter Tryz.func115, Tryz.ntmps115
  go_wp2
  all_goals
    go_ret
    exact ⟨⟨_, rfl⟩, by (repeat (first | with_reducible assumption | exact Bw.refl _ | (with_reducible refine Bw.setCell ?_ (by simp) _) | (with_reducible refine Bw.alloc ?_ _) | (with_reducible refine Bw.drew ?_) | (with_reducible refine Bw.drewN ?_ _)))⟩
end Go.Proofs.YtpjljbhodnlhmaaGreatDoor
