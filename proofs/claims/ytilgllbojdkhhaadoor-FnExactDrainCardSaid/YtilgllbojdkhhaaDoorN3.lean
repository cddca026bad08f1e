
/- Links: the reference's test of one, the next fate, the law's own helpers. -/
import Derived.Test.YtilgllbojdkhhaaDoorN2
import Derived.Deep.RegionHeld3
namespace Go.Proofs.YtilgllbojdkhhaaDoor
open Go.RowKit Go.Shelf Go.ChangeShapes Go.WideShapes Go.ChangeAt Go.Joins Go.Deep
theorem c_l7FateYes (b : UInt8) (h : ftAt b = true) (w : World) : Calls Tryd.prog 46 #[.int .u8 b.toNat] w fun e w' => (∃ m : Int, e = .returned (.int .i64 m) ∧ 0 ≤ m) ∧ w = w' := by
  simp only [ftAt, Bool.or_eq_true, decide_eq_true_eq] at h
  rcases h with h | h | h | h
  all_goals
    rw [h]
    go_enter Tryd.func46, Tryd.ntmps46
    go_wp2
    go_ret
    exact ⟨⟨_, rfl, by omega⟩, rfl⟩
theorem c_l7FateNo (b : UInt8) (h : ftAt b = false) (w : World) : Calls Tryd.prog 46 #[.int .u8 b.toNat] w fun e w' => e = .returned (.int .i64 (-1)) ∧ w = w' := by
  simp only [ftAt, Bool.or_eq_false_iff, decide_eq_false_iff_not] at h
  obtain ⟨h1, h2, h3, h4⟩ := h
  have g1 : ((b.toNat : Int) == 107) = false := by simp; omega
  have g2 : ((b.toNat : Int) == 108) = false := by simp; omega
  have g3 : ((b.toNat : Int) == 100) = false := by simp; omega
  have g4 : ((b.toNat : Int) == 115) = false := by simp; omega
  generalize (b.toNat : Int) = x at *
  clear h1 h2 h3 h4
  go_enter Tryd.func46, Tryd.ntmps46
  go_wp2
  go_ret
  exact ⟨rfl, rfl⟩
theorem shortsB_no {ss : List ByteArray} {k : Nat} (hk : k < ss.length) (h : shortB (strAt ss k) = false) : shortsB ss = false := by
  rw [shortsB, List.all_eq_false]; exact ⟨ss[k], List.getElem_mem _, by rw [← strAt_lt hk, h]; simp⟩
theorem shortsB_yes {ss : List ByteArray} (h : ∀ j (_ : j < ss.length), shortB ss[j] = true) : shortsB ss = true := by
  rw [shortsB, List.all_eq_true]
  intro x hx
  obtain ⟨j, hj, rfl⟩ := List.getElem_of_mem hx
  exact h j hj
set_option maxRecDepth 100000 in
theorem c_l7Good (A : Option Addr) (n c : Nat) (ss : List ByteArray) (hf : fitS ss) (f : ByteArray) (hfs : f.size ≤ maxLen) (u : Int) {r : Bool} (hr : lkB ss f u = r) (w : World) (hm : n ≤ 9223372036854775807) (h : Rd w A n 1 (ss.map scell)) :
    Calls Tryd.prog 35 #[.agg #[.slice A n c, .string f, .int .i64 u]] w fun e w' => e = .returned (.bool r) ∧ Bw w w' := by
  subst hr
  unfold maxLen at hfs
  have hl := Lib.hid h.slen
  have HF := Lib.hid hf
  clear hf
  have hbx : Bw w (w.alloc (.cells #[.slice A n c, .string f, .int .i64 u] 27)) := Bw.alloc (Bw.refl _) _
  go_enter Tryd.func35, Tryd.ntmps35
  go_wp2
  go_loop [3] (fun i => ∃ k : Nat, k ≤ n ∧ i = .int .i64 k ∧ (∀ j (hj : j < k) (hj2 : j < ss.length), shortB ss[j] = true)) (fun i => n - (intOf i).toNat)
  case atStart => exact ⟨0, Nat.zero_le _, rfl, fun j hj => absurd hj (by omega)⟩
  case round =>
    obtain ⟨k, hk, rfl, hst⟩ := hrel
    have Hst := Lib.hid hst
    clear hst
    by_cases hkn : k < n
    · obtain ⟨b, off, rfl, hb, hc⟩ := (h.keep hbx).strs (by omega)
      have h0 := hc k hkn
      clear hc
      have hkt : k < ss.length := by rw [hl.out]; exact hkn
      have Ht := Lib.hid (strAt_lt hkt)
      have Hs := Lib.hid (HF.out k hkt)
      have hss := Hs.out
      unfold maxLen at hss
      by_cases hp : (strAt ss k).size ≤ 60
      · have Hp := Lib.hid (show shortB (strAt ss k) = true by simp [shortB, hp])
        go_wp2
        go_round
        case rel =>
          refine ⟨k + 1, by omega, by go_num, ?_⟩
          intro j hj hj2
          rcases Nat.lt_succ_iff_lt_or_eq.1 hj with h9 | h9
          · exact Hst.out j h9 hj2
          · subst h9; rw [← Ht.out]; exact Hp.out
        case measure => simp [intOf]; omega
      · have Hp := Lib.hid (shortsB_no hkt (show shortB (strAt ss k) = false by simp [shortB]; omega))
        go_wp2
        go_ret
        exact ⟨ret_bool (by simp [lkB, Hp.out]), hbx⟩
    · obtain rfl : k = n := by omega
      have HA := Lib.hid (shortsB_yes (ss := ss) (fun j hj => Hst.out j (by rw [hl.out] at hj; omega) hj))
      go_wp2
      go_loop [4] (fun i => ∃ q : Nat, q ≤ f.size ∧ i = .int .i64 q ∧ (∀ j (hj : j < q) (hj2 : j < f.size), ftAt f[j] = true)) (fun i => f.size - (intOf i).toNat)
      case atStart => exact ⟨0, Nat.zero_le _, rfl, fun j hj => absurd hj (by omega)⟩
      case round =>
        obtain ⟨q, hq, rfl, hst⟩ := hrel
        have Hst2 := Lib.hid hst
        clear hst
        by_cases hqn : q < f.size
        · cases hp : ftAt f[q]
          · have HN := Lib.hid (ftB_no hqn hp)
            have Hp := Lib.hid hp
            clear hp
            go_wp2_with (go_at_call 46; refine (c_l7FateNo _ Hp.out _).mono ?_; rintro e w1 ⟨rfl, rfl⟩)
            go_ret
            exact ⟨ret_bool (by simp [lkB, HN.out]), hbx⟩
          · have Hp := Lib.hid hp
            clear hp
            go_wp2_with (go_at_call 46; refine (c_l7FateYes _ Hp.out _).mono ?_; rintro e w1 ⟨⟨m, rfl, hm0⟩, rfl⟩)
            go_round
            case rel =>
              refine ⟨q + 1, by omega, by go_num, ?_⟩
              intro j hj hj2
              rcases Nat.lt_succ_iff_lt_or_eq.1 hj with h9 | h9
              · exact Hst2.out j h9 hj2
              · subst h9; exact Hp.out
            case measure => simp [intOf]; omega
        · have HB := Lib.hid (ftB_yes (s := f) (fun j hj => Hst2.out j (by omega) hj))
          generalize h5 : inR u 0 f.size = r5
          have HE := Lib.hid (show lkB ss f u = (decide (k ≤ 8) && (decide (f.size ≤ 40) && r5)) by simp [lkB, hl.out, HA.out, HB.out, h5])
          by_cases g1 : k ≤ 8
          · by_cases g2 : f.size ≤ 40
            · go_wp2_with (go_at_call 51; refine (c_l1In _ _ _ h5 _).mono ?_; rintro e w3 ⟨rfl, rfl⟩)
              go_ret
              exact ⟨ret_bool (by rw [HE.out]; simp [g1, g2]), hbx⟩
            · go_wp2_with fail
              go_ret
              exact ⟨ret_bool (by rw [HE.out]; simp [g2]), hbx⟩
          · go_wp2_with fail
            go_ret
            exact ⟨ret_bool (by rw [HE.out]; simp [g1]), hbx⟩
theorem c_sIsValidLink (A : Option Addr) (n c : Nat) (ss : List ByteArray) (hf : fitS ss) (f : ByteArray) (hfs : f.size ≤ maxLen) (u : Int) {r : Bool} (hr : lkB ss f u = r) (w : World) (hm : n ≤ 9223372036854775807) (h : Rd w A n 1 (ss.map scell)) :
    Calls Tryd.prog 10 #[.agg #[.slice A n c, .string f, .int .i64 u]] w fun e w' => e = .returned (.bool r) ∧ Bw w w' := by
  go_enter Tryd.func10, Tryd.ntmps10
  go_wp2_with (go_at_call 35; refine (c_l7Good _ _ _ ss hf f hfs u hr _ hm (h.keep (by (repeat (first | with_reducible assumption | exact Bw.refl _ | (with_reducible refine Bw.setCell ?_ (by simp) _) | (with_reducible refine Bw.alloc ?_ _) | (with_reducible refine Bw.drew ?_) | (with_reducible refine Bw.drewN ?_ _)))))).mono ?_; rintro e w1 ⟨rfl, hb1⟩)
  go_ret
  exact ⟨rfl, Bw.trans (by (repeat (first | with_reducible assumption | exact Bw.refl _ | (with_reducible refine Bw.setCell ?_ (by simp) _) | (with_reducible refine Bw.alloc ?_ _) | (with_reducible refine Bw.drew ?_) | (with_reducible refine Bw.drewN ?_ _)))) hb1⟩
theorem c_szLink (A : Option Addr) (n c : Nat) (ss : List ByteArray) (hf : fitS ss) (f : ByteArray) (hfs : f.size ≤ maxLen) (u : Int) (hm : n ≤ 9223372036854775807) (w : World) (h : Rd w A n 1 (ss.map scell)) : Calls Tryd.prog 9 #[.agg #[.slice A n c, .string f, .int .i64 u], .int .i64 1048576] w fun e w' => (∃ m : Int, e = .returned (.int .i64 m) ∧ (m < 0 ∨ n ≤ 1048576)) ∧ Bw w w' := by
  unfold maxLen at hfs
  go_enter Tryd.func9, Tryd.ntmps9
  go_wp2_with (go_at_call 34; refine (c_szStringS _ _ _ ss _ hm hf (h.keep (Bw.alloc (Bw.refl _) _))).mono ?_; rintro e w1 ⟨⟨m, rfl, hmx, hmm⟩, rfl⟩)
  all_goals
    go_ret
    exact ⟨⟨_, rfl, by omega⟩, by (repeat (first | with_reducible assumption | exact Bw.refl _ | (with_reducible refine Bw.setCell ?_ (by simp) _) | (with_reducible refine Bw.alloc ?_ _) | (with_reducible refine Bw.drew ?_) | (with_reducible refine Bw.drewN ?_ _)))⟩
set_option maxRecDepth 100000 in
theorem c_toLink (A : Option Addr) (n c : Nat) (ss : List ByteArray) (f : ByteArray) (u : Int) (w : World) (hm : n ≤ 1048576) (h : Rd w A n 1 (ss.map scell)) :
    Calls Tryd.prog 11 #[.agg #[.slice A n c, .string f, .int .i64 u]] w fun e w' => (∃ A' c', e = .returned (.agg #[.slice A' n c', .string f, .int .i64 u]) ∧ Row w' w.heap.size 9 1 scell A' n c' ss) ∧ Bw w w' := by
  go_enter Tryd.func11, Tryd.ntmps11
  go_wp2_with (go_at_call 36; refine (c_toStringS _ _ _ ss _ hm (h.keep (Bw.alloc (Bw.alloc (Bw.alloc (Bw.refl _) _) _) _))).mono ?_; rintro e w1 ⟨⟨A1, c1, rfl, row1⟩, hb1⟩; have hr1 := hb1.rule; have hf1 := hb1.frz; have hs1 : w.heap.size + 3 ≤ w1.heap.size := (by have := hb1.size; simpa using this); have b00 := hb1.cellv (p := ⟨w.heap.size, 0, none⟩) (v := .slice A n c) (by go_simp); have b01 := hb1.cellv (p := ⟨w.heap.size, 1, none⟩) (v := .string f) (by go_simp); have b02 := hb1.cellv (p := ⟨w.heap.size, 2, none⟩) (v := .int .i64 u) (by go_simp); have b10 := hb1.cellv (p := ⟨w.heap.size + 1, 0, none⟩) (v := .slice none 0 0) (by go_simp); have b11 := hb1.cellv (p := ⟨w.heap.size + 1, 1, none⟩) (v := .string ⟨#[]⟩) (by go_simp); have b12 := hb1.cellv (p := ⟨w.heap.size + 1, 2, none⟩) (v := .int .i64 0) (by go_simp); have b20 := hb1.cellv (p := ⟨w.heap.size + 2, 0, none⟩) (v := .slice none 0 0) (by go_simp); have b21 := hb1.cellv (p := ⟨w.heap.size + 2, 1, none⟩) (v := .string ⟨#[]⟩) (by go_simp); have b22 := hb1.cellv (p := ⟨w.heap.size + 2, 2, none⟩) (v := .int .i64 0) (by go_simp))
  have lt1 := row1.lt
  have ne1 : ∀ (k : Nat), k < w.heap.size + 3 → ∀ x, A1 = some x → k ≠ x.block := fun k hk x hx he => by have := (lt1 x hx).1; simp at this; omega
  have r0 := row1.store ⟨w.heap.size + 2, 0, none⟩ (.slice A1 n c1) (ne1 (w.heap.size + 2) (by omega))
  have r1 := r0.store ⟨w.heap.size + 2, 1, none⟩ (.string f) (ne1 (w.heap.size + 2) (by omega))
  have r2 := r1.store ⟨w.heap.size + 2, 2, none⟩ (.int .i64 u) (ne1 (w.heap.size + 2) (by omega))
  have r3 := r2.store ⟨w.heap.size + 1, 0, none⟩ (.slice A1 n c1) (ne1 (w.heap.size + 1) (by omega))
  have r4 := r3.store ⟨w.heap.size + 1, 1, none⟩ (.string f) (ne1 (w.heap.size + 1) (by omega))
  have r5 := r4.store ⟨w.heap.size + 1, 2, none⟩ (.int .i64 u) (ne1 (w.heap.size + 1) (by omega))
  have hb : Bw w w1 := Bw.trans (by (repeat (first | with_reducible assumption | exact Bw.refl _ | (with_reducible refine Bw.setCell ?_ (by simp) _) | (with_reducible refine Bw.alloc ?_ _) | (with_reducible refine Bw.drew ?_) | (with_reducible refine Bw.drewN ?_ _)))) hb1
  have k4 := (((((hb.setCell (p := ⟨w.heap.size + 2, 0, none⟩) (by simp) (.slice A1 n c1)).setCell (p := ⟨w.heap.size + 2, 1, none⟩) (by simp) (.string f)).setCell (p := ⟨w.heap.size + 2, 2, none⟩) (by simp) (.int .i64 u)).setCell (p := ⟨w.heap.size + 1, 0, none⟩) (by simp) (.slice A1 n c1)).setCell (p := ⟨w.heap.size + 1, 1, none⟩) (by simp) (.string f)).setCell (p := ⟨w.heap.size + 1, 2, none⟩) (by simp) (.int .i64 u)
  exact bodyPost_ret (v := .agg #[.slice A1 n c1, .string f, .int .i64 u]) (by simp [results, Tryd.results11, go_sem, b10, b11, b12, b20, b21, b22]) rfl ⟨⟨_, _, rfl, r5.mono (by simp; omega)⟩, k4⟩
theorem c_eqLink (A A' : Option Addr) (n c c' : Nat) (ss : List ByteArray) (f : ByteArray) (u : Int) (w : World) (hm : n ≤ 9223372036854775807) (h : Rd w A n 1 (ss.map scell)) (h' : Rd w A' n 1 (ss.map scell)) :
    Calls Tryd.prog 13 #[.agg #[.slice A n c, .string f, .int .i64 u], .agg #[.slice A' n c', .string f, .int .i64 u]] w fun e w' => e = .returned (.bool true) ∧ Bw w w' := by
  go_enter Tryd.func13, Tryd.ntmps13
  go_wp2_with (go_at_call 22; refine (c_eqStringS _ _ _ _ _ ss _ hm (h.keep (Bw.alloc (Bw.alloc (Bw.refl _) _) _)) (h'.keep (Bw.alloc (Bw.alloc (Bw.refl _) _) _))).mono ?_; rintro e w1 ⟨rfl, hb1⟩; have d1 := hb1.cellv (p := ⟨w.heap.size, 1, none⟩) (v := .string f) (by go_simp); have d2 := hb1.cellv (p := ⟨w.heap.size, 2, none⟩) (v := .int .i64 u) (by go_simp); have d3 := hb1.cellv (p := ⟨w.heap.size + 1, 1, none⟩) (v := .string f) (by go_simp); have d4 := hb1.cellv (p := ⟨w.heap.size + 1, 2, none⟩) (v := .int .i64 u) (by go_simp))
  go_ret
  exact ⟨rfl, Bw.trans (Bw.alloc (Bw.alloc (Bw.refl _) _) _) hb1⟩
end Go.Proofs.YtilgllbojdkhhaaDoor
