
/- Steps: the program's and the reference's test of one; the law's own helpers. -/
import Derived.Test.YtilgllbojdkhhaaDoorS2
namespace Go.Proofs.YtilgllbojdkhhaaDoor
open Go.RowKit Go.ChangeShapes Go.WideShapes Go.ChangeAt Go.Joins Go.Deep
def stepB (k nd : Int) (d : ByteArray) : Bool := if k = 1 then decide (nd = 0) && itemB d else if k = 4 then decide (nd = 0) && decide (d.toList = []) else inR k 1 6 && (inR nd 1 7 && decide (d.toList = []))
theorem c_toStep (k nd : Int) (d : ByteArray) (w : World) : Calls Tryd.prog 32 #[.agg #[.int .i64 k, .int .i64 nd, .string d]] w fun e w' => e = .returned (.agg #[.int .i64 k, .int .i64 nd, .string d]) ∧ Bw w w' := by
  go_enter Tryd.func32, Tryd.ntmps32
  go_wp2
  exact bodyPost_ret (v := .agg #[.int .i64 k, .int .i64 nd, .string d]) (by simp [results, Tryd.results32, go_sem]) rfl ⟨rfl, by (repeat (first | with_reducible assumption | exact Bw.refl _ | (with_reducible refine Bw.setCell ?_ (by simp) _) | (with_reducible refine Bw.alloc ?_ _) | (with_reducible refine Bw.drew ?_) | (with_reducible refine Bw.drewN ?_ _)))⟩
theorem c_szStep (k nd : Int) (d : ByteArray) (hd : d.size ≤ maxLen) (w : World) : Calls Tryd.prog 30 #[.agg #[.int .i64 k, .int .i64 nd, .string d], .int .i64 1048576] w fun e w' => (∃ m : Int, e = .returned (.int .i64 m)) ∧ Bw w w' := by
  unfold maxLen at hd
  go_enter Tryd.func30, Tryd.ntmps30
  go_wp2
  all_goals
    go_ret
    exact ⟨⟨_, rfl⟩, by (repeat (first | with_reducible assumption | exact Bw.refl _ | (with_reducible refine Bw.setCell ?_ (by simp) _) | (with_reducible refine Bw.alloc ?_ _) | (with_reducible refine Bw.drew ?_) | (with_reducible refine Bw.drewN ?_ _)))⟩
theorem c_isFace (x : Int) {r : Bool} (h : inR x 1 7 = r) (w : World) : Calls Tryd.prog 50 #[.int .i64 x] w fun e w' => e = .returned (.bool r) ∧ w = w' := by
  go_enter Tryd.func50, Tryd.ntmps50
  go_wp2_with (go_at_call 40; refine (c_within _ _ _ h _).mono ?_; rintro e w1 ⟨rfl, rfl⟩)
  go_ret; exact ⟨rfl, rfl⟩
set_option maxRecDepth 100000 in
theorem c_iIsValidStep (k nd : Int) (d : ByteArray) (hd : d.size ≤ maxLen) (w : World) : Calls Tryd.prog 33 #[.agg #[.int .i64 k, .int .i64 nd, .string d]] w fun e w' => e = .returned (.bool (stepB k nd d)) ∧ Bw w w' := by
  have hbx : Bw w (w.alloc (.cells #[.int .i64 k, .int .i64 nd, .string d] 50)) := Bw.alloc (Bw.refl _) _
  by_cases k1 : k = 1
  · subst k1
    by_cases n0 : nd = 0
    · subst n0
      generalize hi : itemB d = ri
      have HE := Lib.hid (show stepB 1 0 d = ri by simp [stepB, hi])
      rw [HE.out]
      go_enter Tryd.func33, Tryd.ntmps33
      go_wp2_with (go_at_call 49; refine (c_isItem _ hd hi _).mono ?_; rintro e w1 ⟨rfl, hb1⟩)
      go_ret
      exact ⟨rfl, hbx.trans hb1⟩
    · have HE := Lib.hid (show stepB 1 nd d = false by simp [stepB, n0])
      rw [HE.out]
      go_enter Tryd.func33, Tryd.ntmps33
      go_wp2_with fail
      go_ret
      exact ⟨ret_bool (by simp), by (repeat (first | with_reducible assumption | exact Bw.refl _ | (with_reducible refine Bw.setCell ?_ (by simp) _) | (with_reducible refine Bw.alloc ?_ _) | (with_reducible refine Bw.drew ?_) | (with_reducible refine Bw.drewN ?_ _)))⟩
  · by_cases k4 : k = 4
    · subst k4
      by_cases n0 : nd = 0
      · subst n0
        by_cases hz : d.toList = []
        · have HE := Lib.hid (show stepB 4 0 d = true by simp [stepB, hz])
          rw [HE.out]
          go_enter Tryd.func33, Tryd.ntmps33
          go_wp2_with fail
          go_ret
          exact ⟨ret_bool (by simp [hz]), by (repeat (first | with_reducible assumption | exact Bw.refl _ | (with_reducible refine Bw.setCell ?_ (by simp) _) | (with_reducible refine Bw.alloc ?_ _) | (with_reducible refine Bw.drew ?_) | (with_reducible refine Bw.drewN ?_ _)))⟩
        · have HE := Lib.hid (show stepB 4 0 d = false by simp [stepB, hz])
          rw [HE.out]
          go_enter Tryd.func33, Tryd.ntmps33
          go_wp2_with fail
          go_ret
          exact ⟨ret_bool (by simp [hz]), by (repeat (first | with_reducible assumption | exact Bw.refl _ | (with_reducible refine Bw.setCell ?_ (by simp) _) | (with_reducible refine Bw.alloc ?_ _) | (with_reducible refine Bw.drew ?_) | (with_reducible refine Bw.drewN ?_ _)))⟩
      · have HE := Lib.hid (show stepB 4 nd d = false by simp [stepB, n0])
        rw [HE.out]
        go_enter Tryd.func33, Tryd.ntmps33
        go_wp2_with fail
        go_ret
        exact ⟨ret_bool (by simp), by (repeat (first | with_reducible assumption | exact Bw.refl _ | (with_reducible refine Bw.setCell ?_ (by simp) _) | (with_reducible refine Bw.alloc ?_ _) | (with_reducible refine Bw.drew ?_) | (with_reducible refine Bw.drewN ?_ _)))⟩
    · generalize hx : inR nd 1 7 = rx
      by_cases hk : k = 2 ∨ k = 3 ∨ k = 5 ∨ k = 6
      · have HK := Lib.hid (show inR k 1 6 = true by rw [inR_iff]; omega)
        have HE := Lib.hid (show stepB k nd d = (rx && decide (d.toList = [])) by simp [stepB, k1, k4, HK.out, hx])
        rw [HE.out]
        clear HK HE
        by_cases hz : d.toList = []
        all_goals cases rx
        all_goals
          rcases hk with rfl | rfl | rfl | rfl
          all_goals
            go_enter Tryd.func33, Tryd.ntmps33
            go_wp2_with (go_at_call 50; refine (c_isFace _ hx _).mono ?_; rintro e w1 ⟨rfl, rfl⟩)
            go_ret
            exact ⟨ret_bool (by simp [hz]), hbx⟩
      · have HE := Lib.hid (show stepB k nd d = false by
          have : inR k 1 6 = false := by
            cases h : inR k 1 6
            · rfl
            · rw [inR_iff] at h; omega
          simp [stepB, k1, k4, this])
        rw [HE.out]
        have k2 : ¬ k = 2 := fun h => hk (.inl h)
        have k3 : ¬ k = 3 := fun h => hk (.inr (.inl h))
        have k5 : ¬ k = 5 := fun h => hk (.inr (.inr (.inl h)))
        have k6 : ¬ k = 6 := fun h => hk (.inr (.inr (.inr h)))
        clear hk HE
        go_enter Tryd.func33, Tryd.ntmps33
        go_wp2_with fail
        go_ret
        exact ⟨rfl, hbx⟩
set_option maxRecDepth 100000 in
theorem c_l15Step (k nd : Int) (d : ByteArray) (hd : d.size ≤ maxLen) (w : World) : Calls Tryd.prog 48 #[.agg #[.int .i64 k, .int .i64 nd, .string d]] w fun e w' => e = .returned (.bool (stepB k nd d)) ∧ Bw w w' := by
  have hbx : Bw w (w.alloc (.cells #[.int .i64 k, .int .i64 nd, .string d] 50)) := Bw.alloc (Bw.refl _) _
  by_cases k1 : k = 1
  · subst k1
    by_cases n0 : nd = 0
    · subst n0
      generalize hi : itemB d = ri
      have HE := Lib.hid (show stepB 1 0 d = ri by simp [stepB, hi])
      rw [HE.out]
      go_enter Tryd.func48, Tryd.ntmps48
      go_wp2_with (go_at_call 63; refine (c_l4Letters _ hd hi _).mono ?_; rintro e w1 ⟨rfl, rfl⟩)
      go_ret
      exact ⟨rfl, hbx⟩
    · have HE := Lib.hid (show stepB 1 nd d = false by simp [stepB, n0])
      rw [HE.out]
      go_enter Tryd.func48, Tryd.ntmps48
      go_wp2_with fail
      go_ret
      exact ⟨ret_bool (by simp), hbx⟩
  · by_cases k4 : k = 4
    · subst k4
      by_cases n0 : nd = 0
      · subst n0
        by_cases hz : d.toList = []
        · have HE := Lib.hid (show stepB 4 0 d = true by simp [stepB, hz])
          rw [HE.out]
          go_enter Tryd.func48, Tryd.ntmps48
          go_wp2_with fail
          go_ret
          exact ⟨ret_bool (by simp [hz]), hbx⟩
        · have HE := Lib.hid (show stepB 4 0 d = false by simp [stepB, hz])
          rw [HE.out]
          go_enter Tryd.func48, Tryd.ntmps48
          go_wp2_with fail
          go_ret
          exact ⟨ret_bool (by simp [hz]), hbx⟩
      · have HE := Lib.hid (show stepB 4 nd d = false by simp [stepB, n0])
        rw [HE.out]
        go_enter Tryd.func48, Tryd.ntmps48
        go_wp2_with fail
        go_ret
        exact ⟨ret_bool (by simp), hbx⟩
    · cases hk : inR k 1 6
      · have HE := Lib.hid (show stepB k nd d = false by simp [stepB, k1, k4, hk])
        rw [HE.out]
        clear HE
        go_enter Tryd.func48, Tryd.ntmps48
        go_wp2_with (go_at_call 51; refine (c_l1In _ _ _ hk _).mono ?_; rintro e w1 ⟨rfl, rfl⟩)
        go_ret
        exact ⟨rfl, hbx⟩
      · generalize hx : inR nd 1 7 = rx
        have HE := Lib.hid (show stepB k nd d = (rx && decide (d.toList = [])) by simp [stepB, k1, k4, hk, hx])
        rw [HE.out]
        clear HE
        by_cases hz : d.toList = []
        all_goals cases rx
        all_goals
          go_enter Tryd.func48, Tryd.ntmps48
          go_wp2_with (go_at_call 51; first | ((with_reducible refine (c_l1In _ _ _ hk _).mono ?_); rintro e w1 ⟨rfl, rfl⟩) | ((with_reducible refine (c_l1In _ _ _ hx _).mono ?_); rintro e w1 ⟨rfl, rfl⟩))
          go_ret
          exact ⟨ret_bool (by simp [hz]), hbx⟩
theorem c_sIsValidStep (k nd : Int) (d : ByteArray) (hd : d.size ≤ maxLen) (w : World) : Calls Tryd.prog 31 #[.agg #[.int .i64 k, .int .i64 nd, .string d]] w fun e w' => e = .returned (.bool (stepB k nd d)) ∧ Bw w w' := by
  go_enter Tryd.func31, Tryd.ntmps31
  go_wp2_with (go_at_call 48; refine (c_l15Step _ _ _ hd _).mono ?_; rintro e w1 ⟨rfl, hb1⟩)
  go_ret
  exact ⟨rfl, Bw.trans (by (repeat (first | with_reducible assumption | exact Bw.refl _ | (with_reducible refine Bw.setCell ?_ (by simp) _) | (with_reducible refine Bw.alloc ?_ _) | (with_reducible refine Bw.drew ?_) | (with_reducible refine Bw.drewN ?_ _)))) hb1⟩
set_option maxRecDepth 100000 in
theorem w_IsValidStep (k nd : Int) (d : ByteArray) (hd : d.size ≤ maxLen) (w : World) :
    Calls Tryd.prog 8 #[.agg #[.int .i64 k, .int .i64 nd, .string d]] w fun e w' => e = .returned (.bool true) ∧ Bw w w' := by
  generalize hr : stepB k nd d = r
  have CS := Lib.hid (fun W => c_sIsValidStep k nd d hd W)
  have CI := Lib.hid (fun W => c_iIsValidStep k nd d hd W)
  rw [hr] at CS CI
  clear hr
  have hbx : Bw w (w.alloc (.cells #[.int .i64 k, .int .i64 nd, .string d] 47)) := Bw.alloc (Bw.refl _) _
  go_enter Tryd.func8, Tryd.ntmps8
  go_wp2_with (go_at_call 30; refine (c_szStep k nd d hd _).mono ?_; rintro e w1 ⟨⟨m, rfl⟩, hb1⟩; have d0 := hb1.cellv (p := ⟨w.heap.size, 0, none⟩) (v := .int .i64 k) (by go_simp); have d1 := hb1.cellv (p := ⟨w.heap.size, 1, none⟩) (v := .int .i64 nd) (by go_simp); have d2 := hb1.cellv (p := ⟨w.heap.size, 2, none⟩) (v := .string d) (by go_simp))
  · go_ret
    exact ⟨rfl, hbx.trans hb1⟩
  · refine (c_toStep k nd d _).mono ?_
    rintro e w2 ⟨rfl, hb2⟩
    have e0 := hb2.cellv d0
    have e1 := hb2.cellv d1
    have e2 := hb2.cellv d2
    go_wp2_with fail
    refine (CS.out _).mono ?_
    rintro e w3 ⟨rfl, hb3⟩
    have f0 := hb3.cellv e0
    have f1 := hb3.cellv e1
    have f2 := hb3.cellv e2
    go_wp2_with fail
    refine (c_toStep k nd d _).mono ?_
    rintro e w4 ⟨rfl, hb4⟩
    go_wp2_with fail
    refine (CI.out _).mono ?_
    rintro e w5 ⟨rfl, hb5⟩
    go_wp2_with fail
    go_ret
    exact ⟨rfl, ((((hbx.trans hb1).trans hb2).trans hb3).trans hb4).trans hb5⟩
set_option maxRecDepth 100000 in
theorem open_step {H : Type} {enc : TypeId × Value → H} {w : World} {v : Value} {d : DataW H} {p : List MemPlace} (hv : Value.okWide Tryd.prog w .any 0 47 v) (h : DataW.Trod enc Tryd.prog w 0 (fun _ => true) true 47 v d p) :
    ∃ (k nd : Int) (s : ByteArray), v = .agg #[.int .i64 k, .int .i64 nd, .string s] ∧ s.size ≤ maxLen := by
  obtain ⟨c0, c1, c2, y0, y1, y2, m, rfl, _, _, hy0, hy1, hy2⟩ := open_agg3 Tryd.underlying47 (by kernel_rfl) (by kernel_rfl) hv h
  obtain ⟨t, ht, _⟩ := DataW.trod_int Tryd.underlying3 hy0
  obtain ⟨z, hz, _⟩ := DataW.trod_int Tryd.underlying3 hy1
  obtain ⟨s, hs, _, hl⟩ := DataW.trod_string Tryd.underlying9 hy2
  simp only [List.cons.injEq, and_true] at ht hz hs
  subst ht hz hs
  exact ⟨t, z, s, rfl, hl⟩
end Go.Proofs.YtilgllbojdkhhaaDoor
