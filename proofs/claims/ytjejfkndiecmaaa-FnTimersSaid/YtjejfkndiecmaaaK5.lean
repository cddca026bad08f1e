
/- BackOff: the program's and the reference's come to one function. -/
import Derived.Test.YtjejfkndiecmaaaK4
namespace Go.Proofs.Ytjejfkndiecmaaa
open Go.RowKit
def backOff (i d p most : Int) : Timer × Bool :=
  if okT ⟨i, d, p⟩ = true ∧ p ≠ 0 ∧ inR most 1 10000 = true ∧ p ≤ most ∧ okT ⟨i, d + min (2 * p) most, min (2 * p) most⟩ = true then (⟨i, d + min (2 * p) most, min (2 * p) most⟩, true) else (⟨0, 0, 0⟩, false)
def Timer.out (t : Timer) : Value := .agg #[.int .i64 t.id, .int .i64 t.due, .int .i64 t.per]
set_option maxHeartbeats 2000000 in
theorem c_sBackOff (i d p most : Int) (w : World) : Calls Try.prog 17 #[.agg #[.int .i64 i, .int .i64 d, .int .i64 p], .int .i64 most] w fun e w' =>
    e = .returned (.tuple #[(backOff i d p most).1.out, .bool (backOff i d p most).2]) ∧ Bw w w' := by
  cases h1 : okT ⟨i, d, p⟩
  · have H := Lib.hid (show backOff i d p most = (⟨0, 0, 0⟩, false) by simp [backOff, h1])
    go_enter Try.func17, Try.ntmps17
    go_wp2_with (first | (go_at_call 50; first | ((with_reducible refine (x_l8One _ _ _ h1 _).mono ?_); rintro e w1 ⟨rfl, rfl⟩) | ((with_reducible refine (x_l8One _ _ _ h5 _).mono ?_); rintro e w1 ⟨rfl, rfl⟩)) | (go_at_call 51; refine (c_l1In _ _ _ h3 _).mono ?_; rintro e w1 ⟨rfl, rfl⟩) | (go_at_call 52; refine (c_l1Least _ _ E6.out _).mono ?_; rintro e w1 ⟨rfl, rfl⟩))
    exact bodyPost_ret (v := .tuple #[.agg #[.int .i64 ((⟨0, 0, 0⟩ : Timer)).id, .int .i64 ((⟨0, 0, 0⟩ : Timer)).due, .int .i64 ((⟨0, 0, 0⟩ : Timer)).per], .bool false]) (by simp [results, Try.results17, go_sem]) rfl ⟨by rw [H.out]; rfl, by (repeat (first | with_reducible assumption | exact Bw.refl _ | (with_reducible refine Bw.setCell ?_ (by simp) _) | (with_reducible refine Bw.alloc ?_ _) | (with_reducible refine Bw.drew ?_) | (with_reducible refine Bw.drewN ?_ _)))⟩
  · have ⟨⟨_, _⟩, ⟨_, _⟩, _, _⟩ := okT_iff.1 h1
    by_cases h2 : p = 0
    · have H := Lib.hid (show backOff i d p most = (⟨0, 0, 0⟩, false) by simp [backOff, h2])
      subst h2
      go_enter Try.func17, Try.ntmps17
      go_wp2_with (first | (go_at_call 50; first | ((with_reducible refine (x_l8One _ _ _ h1 _).mono ?_); rintro e w1 ⟨rfl, rfl⟩) | ((with_reducible refine (x_l8One _ _ _ h5 _).mono ?_); rintro e w1 ⟨rfl, rfl⟩)) | (go_at_call 51; refine (c_l1In _ _ _ h3 _).mono ?_; rintro e w1 ⟨rfl, rfl⟩) | (go_at_call 52; refine (c_l1Least _ _ E6.out _).mono ?_; rintro e w1 ⟨rfl, rfl⟩))
      exact bodyPost_ret (v := .tuple #[.agg #[.int .i64 ((⟨0, 0, 0⟩ : Timer)).id, .int .i64 ((⟨0, 0, 0⟩ : Timer)).due, .int .i64 ((⟨0, 0, 0⟩ : Timer)).per], .bool false]) (by simp [results, Try.results17, go_sem]) rfl ⟨by rw [H.out]; rfl, by (repeat (first | with_reducible assumption | exact Bw.refl _ | (with_reducible refine Bw.setCell ?_ (by simp) _) | (with_reducible refine Bw.alloc ?_ _) | (with_reducible refine Bw.drew ?_) | (with_reducible refine Bw.drewN ?_ _)))⟩
    · have h2b : (p == 0) = false := by simpa using h2
      cases h3 : inR most 1 10000
      · have H := Lib.hid (show backOff i d p most = (⟨0, 0, 0⟩, false) by simp [backOff, h3])
        go_enter Try.func17, Try.ntmps17
        go_wp2_with (first | (go_at_call 50; first | ((with_reducible refine (x_l8One _ _ _ h1 _).mono ?_); rintro e w1 ⟨rfl, rfl⟩) | ((with_reducible refine (x_l8One _ _ _ h5 _).mono ?_); rintro e w1 ⟨rfl, rfl⟩)) | (go_at_call 51; refine (c_l1In _ _ _ h3 _).mono ?_; rintro e w1 ⟨rfl, rfl⟩) | (go_at_call 52; refine (c_l1Least _ _ E6.out _).mono ?_; rintro e w1 ⟨rfl, rfl⟩))
        exact bodyPost_ret (v := .tuple #[.agg #[.int .i64 ((⟨0, 0, 0⟩ : Timer)).id, .int .i64 ((⟨0, 0, 0⟩ : Timer)).due, .int .i64 ((⟨0, 0, 0⟩ : Timer)).per], .bool false]) (by simp [results, Try.results17, go_sem]) rfl ⟨by rw [H.out]; rfl, by (repeat (first | with_reducible assumption | exact Bw.refl _ | (with_reducible refine Bw.setCell ?_ (by simp) _) | (with_reducible refine Bw.alloc ?_ _) | (with_reducible refine Bw.drew ?_) | (with_reducible refine Bw.drewN ?_ _)))⟩
      · have ⟨_, _⟩ := inR_iff.1 h3
        by_cases h4 : p ≤ most
        · by_cases h6 : most < 2 * p
          · have e6 : min (2 * p) most = most := by omega
            cases h5 : okT ⟨i, d + most, most⟩
            · have H := Lib.hid (show backOff i d p most = (⟨0, 0, 0⟩, false) by simp [backOff, e6, h5])
              have E6 := Lib.hid e6
              clear e6
              go_enter Try.func17, Try.ntmps17
              go_wp2_with (first | (go_at_call 50; first | ((with_reducible refine (x_l8One _ _ _ h1 _).mono ?_); rintro e w1 ⟨rfl, rfl⟩) | ((with_reducible refine (x_l8One _ _ _ h5 _).mono ?_); rintro e w1 ⟨rfl, rfl⟩)) | (go_at_call 51; refine (c_l1In _ _ _ h3 _).mono ?_; rintro e w1 ⟨rfl, rfl⟩) | (go_at_call 52; refine (c_l1Least _ _ E6.out _).mono ?_; rintro e w1 ⟨rfl, rfl⟩))
              exact bodyPost_ret (v := .tuple #[.agg #[.int .i64 ((⟨0, 0, 0⟩ : Timer)).id, .int .i64 ((⟨0, 0, 0⟩ : Timer)).due, .int .i64 ((⟨0, 0, 0⟩ : Timer)).per], .bool false]) (by simp [results, Try.results17, go_sem]) rfl ⟨by rw [H.out]; rfl, by (repeat (first | with_reducible assumption | exact Bw.refl _ | (with_reducible refine Bw.setCell ?_ (by simp) _) | (with_reducible refine Bw.alloc ?_ _) | (with_reducible refine Bw.drew ?_) | (with_reducible refine Bw.drewN ?_ _)))⟩
            · have H := Lib.hid (show backOff i d p most = (⟨i, d + most, most⟩, true) by simp [backOff, e6, h1, h2, h3, h4, h5])
              have E6 := Lib.hid e6
              clear e6
              go_enter Try.func17, Try.ntmps17
              go_wp2_with (first | (go_at_call 50; first | ((with_reducible refine (x_l8One _ _ _ h1 _).mono ?_); rintro e w1 ⟨rfl, rfl⟩) | ((with_reducible refine (x_l8One _ _ _ h5 _).mono ?_); rintro e w1 ⟨rfl, rfl⟩)) | (go_at_call 51; refine (c_l1In _ _ _ h3 _).mono ?_; rintro e w1 ⟨rfl, rfl⟩) | (go_at_call 52; refine (c_l1Least _ _ E6.out _).mono ?_; rintro e w1 ⟨rfl, rfl⟩))
              exact bodyPost_ret (v := .tuple #[.agg #[.int .i64 ((⟨i, d + most, most⟩ : Timer)).id, .int .i64 ((⟨i, d + most, most⟩ : Timer)).due, .int .i64 ((⟨i, d + most, most⟩ : Timer)).per], .bool true]) (by simp [results, Try.results17, go_sem]) rfl ⟨by rw [H.out]; rfl, by (repeat (first | with_reducible assumption | exact Bw.refl _ | (with_reducible refine Bw.setCell ?_ (by simp) _) | (with_reducible refine Bw.alloc ?_ _) | (with_reducible refine Bw.drew ?_) | (with_reducible refine Bw.drewN ?_ _)))⟩
          · have e6 : min (2 * p) most = 2 * p := by omega
            cases h5 : okT ⟨i, d + 2 * p, 2 * p⟩
            · have H := Lib.hid (show backOff i d p most = (⟨0, 0, 0⟩, false) by simp [backOff, e6, h5])
              have E6 := Lib.hid e6
              clear e6
              go_enter Try.func17, Try.ntmps17
              go_wp2_with (first | (go_at_call 50; first | ((with_reducible refine (x_l8One _ _ _ h1 _).mono ?_); rintro e w1 ⟨rfl, rfl⟩) | ((with_reducible refine (x_l8One _ _ _ h5 _).mono ?_); rintro e w1 ⟨rfl, rfl⟩)) | (go_at_call 51; refine (c_l1In _ _ _ h3 _).mono ?_; rintro e w1 ⟨rfl, rfl⟩) | (go_at_call 52; refine (c_l1Least _ _ E6.out _).mono ?_; rintro e w1 ⟨rfl, rfl⟩))
              exact bodyPost_ret (v := .tuple #[.agg #[.int .i64 ((⟨0, 0, 0⟩ : Timer)).id, .int .i64 ((⟨0, 0, 0⟩ : Timer)).due, .int .i64 ((⟨0, 0, 0⟩ : Timer)).per], .bool false]) (by simp [results, Try.results17, go_sem]) rfl ⟨by rw [H.out]; rfl, by (repeat (first | with_reducible assumption | exact Bw.refl _ | (with_reducible refine Bw.setCell ?_ (by simp) _) | (with_reducible refine Bw.alloc ?_ _) | (with_reducible refine Bw.drew ?_) | (with_reducible refine Bw.drewN ?_ _)))⟩
            · have H := Lib.hid (show backOff i d p most = (⟨i, d + 2 * p, 2 * p⟩, true) by simp [backOff, e6, h1, h2, h3, h4, h5])
              have E6 := Lib.hid e6
              clear e6
              go_enter Try.func17, Try.ntmps17
              go_wp2_with (first | (go_at_call 50; first | ((with_reducible refine (x_l8One _ _ _ h1 _).mono ?_); rintro e w1 ⟨rfl, rfl⟩) | ((with_reducible refine (x_l8One _ _ _ h5 _).mono ?_); rintro e w1 ⟨rfl, rfl⟩)) | (go_at_call 51; refine (c_l1In _ _ _ h3 _).mono ?_; rintro e w1 ⟨rfl, rfl⟩) | (go_at_call 52; refine (c_l1Least _ _ E6.out _).mono ?_; rintro e w1 ⟨rfl, rfl⟩))
              exact bodyPost_ret (v := .tuple #[.agg #[.int .i64 ((⟨i, d + 2 * p, 2 * p⟩ : Timer)).id, .int .i64 ((⟨i, d + 2 * p, 2 * p⟩ : Timer)).due, .int .i64 ((⟨i, d + 2 * p, 2 * p⟩ : Timer)).per], .bool true]) (by simp [results, Try.results17, go_sem]) rfl ⟨by rw [H.out]; rfl, by (repeat (first | with_reducible assumption | exact Bw.refl _ | (with_reducible refine Bw.setCell ?_ (by simp) _) | (with_reducible refine Bw.alloc ?_ _) | (with_reducible refine Bw.drew ?_) | (with_reducible refine Bw.drewN ?_ _)))⟩
        · have H := Lib.hid (show backOff i d p most = (⟨0, 0, 0⟩, false) by simp [backOff, h4])
          go_enter Try.func17, Try.ntmps17
          go_wp2_with (first | (go_at_call 50; first | ((with_reducible refine (x_l8One _ _ _ h1 _).mono ?_); rintro e w1 ⟨rfl, rfl⟩) | ((with_reducible refine (x_l8One _ _ _ h5 _).mono ?_); rintro e w1 ⟨rfl, rfl⟩)) | (go_at_call 51; refine (c_l1In _ _ _ h3 _).mono ?_; rintro e w1 ⟨rfl, rfl⟩) | (go_at_call 52; refine (c_l1Least _ _ E6.out _).mono ?_; rintro e w1 ⟨rfl, rfl⟩))
          exact bodyPost_ret (v := .tuple #[.agg #[.int .i64 ((⟨0, 0, 0⟩ : Timer)).id, .int .i64 ((⟨0, 0, 0⟩ : Timer)).due, .int .i64 ((⟨0, 0, 0⟩ : Timer)).per], .bool false]) (by simp [results, Try.results17, go_sem]) rfl ⟨by rw [H.out]; rfl, by (repeat (first | with_reducible assumption | exact Bw.refl _ | (with_reducible refine Bw.setCell ?_ (by simp) _) | (with_reducible refine Bw.alloc ?_ _) | (with_reducible refine Bw.drew ?_) | (with_reducible refine Bw.drewN ?_ _)))⟩
set_option maxHeartbeats 2000000 in
theorem c_iBackOff (i d p most : Int) (w : World) : Calls Try.prog 16 #[.agg #[.int .i64 i, .int .i64 d, .int .i64 p], .int .i64 most] w fun e w' =>
    e = .returned (.tuple #[(backOff i d p most).1.out, .bool (backOff i d p most).2]) ∧ Bw w w' := by
  cases h1 : okT ⟨i, d, p⟩
  · have H := Lib.hid (show backOff i d p most = (⟨0, 0, 0⟩, false) by simp [backOff, h1])
    go_enter Try.func16, Try.ntmps16
    go_wp2_with (first | (go_at_call 37; first | ((with_reducible refine (x_isTimer _ _ _ h1 _).mono ?_); rintro e w1 ⟨rfl, rfl⟩) | ((with_reducible refine (x_isTimer _ _ _ h5 _).mono ?_); rintro e w1 ⟨rfl, rfl⟩)) | (go_at_call 49; refine (c_within _ _ _ h3 _).mono ?_; rintro e w1 ⟨rfl, rfl⟩))
    exact bodyPost_ret (v := .tuple #[.agg #[.int .i64 ((⟨0, 0, 0⟩ : Timer)).id, .int .i64 ((⟨0, 0, 0⟩ : Timer)).due, .int .i64 ((⟨0, 0, 0⟩ : Timer)).per], .bool false]) (by simp [results, Try.results16, go_sem]) rfl ⟨by rw [H.out]; rfl, by (repeat (first | with_reducible assumption | exact Bw.refl _ | (with_reducible refine Bw.setCell ?_ (by simp) _) | (with_reducible refine Bw.alloc ?_ _) | (with_reducible refine Bw.drew ?_) | (with_reducible refine Bw.drewN ?_ _)))⟩
  · have ⟨⟨_, _⟩, ⟨_, _⟩, _, _⟩ := okT_iff.1 h1
    by_cases h2 : p = 0
    · have H := Lib.hid (show backOff i d p most = (⟨0, 0, 0⟩, false) by simp [backOff, h2])
      subst h2
      go_enter Try.func16, Try.ntmps16
      go_wp2_with (first | (go_at_call 37; first | ((with_reducible refine (x_isTimer _ _ _ h1 _).mono ?_); rintro e w1 ⟨rfl, rfl⟩) | ((with_reducible refine (x_isTimer _ _ _ h5 _).mono ?_); rintro e w1 ⟨rfl, rfl⟩)) | (go_at_call 49; refine (c_within _ _ _ h3 _).mono ?_; rintro e w1 ⟨rfl, rfl⟩))
      exact bodyPost_ret (v := .tuple #[.agg #[.int .i64 ((⟨0, 0, 0⟩ : Timer)).id, .int .i64 ((⟨0, 0, 0⟩ : Timer)).due, .int .i64 ((⟨0, 0, 0⟩ : Timer)).per], .bool false]) (by simp [results, Try.results16, go_sem]) rfl ⟨by rw [H.out]; rfl, by (repeat (first | with_reducible assumption | exact Bw.refl _ | (with_reducible refine Bw.setCell ?_ (by simp) _) | (with_reducible refine Bw.alloc ?_ _) | (with_reducible refine Bw.drew ?_) | (with_reducible refine Bw.drewN ?_ _)))⟩
    · have h2b : (p == 0) = false := by simpa using h2
      cases h3 : inR most 1 10000
      · have H := Lib.hid (show backOff i d p most = (⟨0, 0, 0⟩, false) by simp [backOff, h3])
        go_enter Try.func16, Try.ntmps16
        go_wp2_with (first | (go_at_call 37; first | ((with_reducible refine (x_isTimer _ _ _ h1 _).mono ?_); rintro e w1 ⟨rfl, rfl⟩) | ((with_reducible refine (x_isTimer _ _ _ h5 _).mono ?_); rintro e w1 ⟨rfl, rfl⟩)) | (go_at_call 49; refine (c_within _ _ _ h3 _).mono ?_; rintro e w1 ⟨rfl, rfl⟩))
        exact bodyPost_ret (v := .tuple #[.agg #[.int .i64 ((⟨0, 0, 0⟩ : Timer)).id, .int .i64 ((⟨0, 0, 0⟩ : Timer)).due, .int .i64 ((⟨0, 0, 0⟩ : Timer)).per], .bool false]) (by simp [results, Try.results16, go_sem]) rfl ⟨by rw [H.out]; rfl, by (repeat (first | with_reducible assumption | exact Bw.refl _ | (with_reducible refine Bw.setCell ?_ (by simp) _) | (with_reducible refine Bw.alloc ?_ _) | (with_reducible refine Bw.drew ?_) | (with_reducible refine Bw.drewN ?_ _)))⟩
      · have ⟨_, _⟩ := inR_iff.1 h3
        by_cases h4 : p ≤ most
        · by_cases h6 : most < 2 * p
          · have e6 : min (2 * p) most = most := by omega
            cases h5 : okT ⟨i, d + most, most⟩
            · have H := Lib.hid (show backOff i d p most = (⟨0, 0, 0⟩, false) by simp [backOff, e6, h5])
              have E6 := Lib.hid e6
              clear e6
              go_enter Try.func16, Try.ntmps16
              go_wp2_with (first | (go_at_call 37; first | ((with_reducible refine (x_isTimer _ _ _ h1 _).mono ?_); rintro e w1 ⟨rfl, rfl⟩) | ((with_reducible refine (x_isTimer _ _ _ h5 _).mono ?_); rintro e w1 ⟨rfl, rfl⟩)) | (go_at_call 49; refine (c_within _ _ _ h3 _).mono ?_; rintro e w1 ⟨rfl, rfl⟩))
              exact bodyPost_ret (v := .tuple #[.agg #[.int .i64 ((⟨0, 0, 0⟩ : Timer)).id, .int .i64 ((⟨0, 0, 0⟩ : Timer)).due, .int .i64 ((⟨0, 0, 0⟩ : Timer)).per], .bool false]) (by simp [results, Try.results16, go_sem]) rfl ⟨by rw [H.out]; rfl, by (repeat (first | with_reducible assumption | exact Bw.refl _ | (with_reducible refine Bw.setCell ?_ (by simp) _) | (with_reducible refine Bw.alloc ?_ _) | (with_reducible refine Bw.drew ?_) | (with_reducible refine Bw.drewN ?_ _)))⟩
            · have H := Lib.hid (show backOff i d p most = (⟨i, d + most, most⟩, true) by simp [backOff, e6, h1, h2, h3, h4, h5])
              have E6 := Lib.hid e6
              clear e6
              go_enter Try.func16, Try.ntmps16
              go_wp2_with (first | (go_at_call 37; first | ((with_reducible refine (x_isTimer _ _ _ h1 _).mono ?_); rintro e w1 ⟨rfl, rfl⟩) | ((with_reducible refine (x_isTimer _ _ _ h5 _).mono ?_); rintro e w1 ⟨rfl, rfl⟩)) | (go_at_call 49; refine (c_within _ _ _ h3 _).mono ?_; rintro e w1 ⟨rfl, rfl⟩))
              exact bodyPost_ret (v := .tuple #[.agg #[.int .i64 ((⟨i, d + most, most⟩ : Timer)).id, .int .i64 ((⟨i, d + most, most⟩ : Timer)).due, .int .i64 ((⟨i, d + most, most⟩ : Timer)).per], .bool true]) (by simp [results, Try.results16, go_sem]) rfl ⟨by rw [H.out]; rfl, by (repeat (first | with_reducible assumption | exact Bw.refl _ | (with_reducible refine Bw.setCell ?_ (by simp) _) | (with_reducible refine Bw.alloc ?_ _) | (with_reducible refine Bw.drew ?_) | (with_reducible refine Bw.drewN ?_ _)))⟩
          · have e6 : min (2 * p) most = 2 * p := by omega
            cases h5 : okT ⟨i, d + 2 * p, 2 * p⟩
            · have H := Lib.hid (show backOff i d p most = (⟨0, 0, 0⟩, false) by simp [backOff, e6, h5])
              have E6 := Lib.hid e6
              clear e6
              go_enter Try.func16, Try.ntmps16
              go_wp2_with (first | (go_at_call 37; first | ((with_reducible refine (x_isTimer _ _ _ h1 _).mono ?_); rintro e w1 ⟨rfl, rfl⟩) | ((with_reducible refine (x_isTimer _ _ _ h5 _).mono ?_); rintro e w1 ⟨rfl, rfl⟩)) | (go_at_call 49; refine (c_within _ _ _ h3 _).mono ?_; rintro e w1 ⟨rfl, rfl⟩))
              exact bodyPost_ret (v := .tuple #[.agg #[.int .i64 ((⟨0, 0, 0⟩ : Timer)).id, .int .i64 ((⟨0, 0, 0⟩ : Timer)).due, .int .i64 ((⟨0, 0, 0⟩ : Timer)).per], .bool false]) (by simp [results, Try.results16, go_sem]) rfl ⟨by rw [H.out]; rfl, by (repeat (first | with_reducible assumption | exact Bw.refl _ | (with_reducible refine Bw.setCell ?_ (by simp) _) | (with_reducible refine Bw.alloc ?_ _) | (with_reducible refine Bw.drew ?_) | (with_reducible refine Bw.drewN ?_ _)))⟩
            · have H := Lib.hid (show backOff i d p most = (⟨i, d + 2 * p, 2 * p⟩, true) by simp [backOff, e6, h1, h2, h3, h4, h5])
              have E6 := Lib.hid e6
              clear e6
              go_enter Try.func16, Try.ntmps16
              go_wp2_with (first | (go_at_call 37; first | ((with_reducible refine (x_isTimer _ _ _ h1 _).mono ?_); rintro e w1 ⟨rfl, rfl⟩) | ((with_reducible refine (x_isTimer _ _ _ h5 _).mono ?_); rintro e w1 ⟨rfl, rfl⟩)) | (go_at_call 49; refine (c_within _ _ _ h3 _).mono ?_; rintro e w1 ⟨rfl, rfl⟩))
              exact bodyPost_ret (v := .tuple #[.agg #[.int .i64 ((⟨i, d + 2 * p, 2 * p⟩ : Timer)).id, .int .i64 ((⟨i, d + 2 * p, 2 * p⟩ : Timer)).due, .int .i64 ((⟨i, d + 2 * p, 2 * p⟩ : Timer)).per], .bool true]) (by simp [results, Try.results16, go_sem]) rfl ⟨by rw [H.out]; rfl, by (repeat (first | with_reducible assumption | exact Bw.refl _ | (with_reducible refine Bw.setCell ?_ (by simp) _) | (with_reducible refine Bw.alloc ?_ _) | (with_reducible refine Bw.drew ?_) | (with_reducible refine Bw.drewN ?_ _)))⟩
        · have H := Lib.hid (show backOff i d p most = (⟨0, 0, 0⟩, false) by simp [backOff, h4])
          go_enter Try.func16, Try.ntmps16
          go_wp2_with (first | (go_at_call 37; first | ((with_reducible refine (x_isTimer _ _ _ h1 _).mono ?_); rintro e w1 ⟨rfl, rfl⟩) | ((with_reducible refine (x_isTimer _ _ _ h5 _).mono ?_); rintro e w1 ⟨rfl, rfl⟩)) | (go_at_call 49; refine (c_within _ _ _ h3 _).mono ?_; rintro e w1 ⟨rfl, rfl⟩))
          exact bodyPost_ret (v := .tuple #[.agg #[.int .i64 ((⟨0, 0, 0⟩ : Timer)).id, .int .i64 ((⟨0, 0, 0⟩ : Timer)).due, .int .i64 ((⟨0, 0, 0⟩ : Timer)).per], .bool false]) (by simp [results, Try.results16, go_sem]) rfl ⟨by rw [H.out]; rfl, by (repeat (first | with_reducible assumption | exact Bw.refl _ | (with_reducible refine Bw.setCell ?_ (by simp) _) | (with_reducible refine Bw.alloc ?_ _) | (with_reducible refine Bw.drew ?_) | (with_reducible refine Bw.drewN ?_ _)))⟩
end Go.Proofs.Ytjejfkndiecmaaa
