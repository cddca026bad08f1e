
/- PathTo, ChildrenOf, FaceTo: both sides. -/
import Derived.Test.YthciecmofgoebaaGreatDoorM1
namespace Go.Proofs.YthciecmofgoebaaGreatDoor
open Go.RowKit
set_option maxRecDepth 100000 in
theorem c_children (A : Option Addr) (n c : Nat) (ps : List Int) (x : Int) (w : World) (hn : n ≤ 8) (h : Rd w A n 1 (ps.map icell)) :
    Calls Tryz.prog 37 #[.agg #[.slice A n c], .int .i64 x] w fun e w' => (∃ A' c', e = .returned (.slice A' (childTo ps x n).length c') ∧ Row w' w.heap.size 3 1 icell A' (childTo ps x n).length c' (childTo ps x n)) ∧ Bw w w' := by
  have hl := Lib.hid h.ilen
  go_enter Tryz.func37, Tryz.ntmps37
  go_wp2
  go_loopw [5, 11] (fun ov i wr => ∃ k : Nat, k ≤ n ∧ i = .int .i64 k ∧ (∃ A c, ov = .slice A (childTo ps x k).length c ∧ Row wr (w.heap.size + 1) 3 1 icell A (childTo ps x k).length c (childTo ps x k)) ∧ Bw (w.alloc (.cells #[.slice A n c] 26)) wr) (fun _ i _ => n - (intOf i).toNat)
  case atStart => exact ⟨0, Nat.zero_le _, rfl, ⟨_, _, rfl, Row.nil _ _ _ _ _⟩, Bw.refl _⟩
  case round =>
    obtain ⟨k, hk, rfl, ⟨A', c', rfl, hrow⟩, hbl⟩ := hrel
    have hbw : Bw w (wr) := Bw.trans (Bw.alloc (Bw.refl _) _) hbl
    have hlk := childTo_len ps x k
    by_cases hlt : k < n
    · obtain ⟨b, off, rfl, hb, hc⟩ := (h.keep hbw).ints (by omega)
      have q0 := hc k hlt
      clear hc
      generalize hL : childTo ps x k = L at hrow hlk
      have HL := Lib.hid hL
      clear hL
      by_cases he : intAt ps k = x
      · have he' : (intAt ps k == x) = true := by simpa using he
        have HN := Lib.hid (show childTo ps x (k + 1) = L ++ [(k : Int)] by rw [childTo_yes he, HL.out])
        have hs0 : w.heap.size + 1 ≤ wr.heap.size := by have := hbl.size; simpa using this
        have lt' := hrow.lt
        clear he
        go_wp2_with ((at_builtin; refine append_int rfl _ _ rfl _ _ _ _ rfl hrow _ _ rfl rfl ?_ ?_ ?_; omega; exact hs0; intro A2 c2 w2 hrow2 hg2 hmv2))
        go_roundw
        case rel => exact ⟨k + 1, by omega, by go_num, by rw [HN.out]; exact ⟨A2, c2, by simp, by simpa using hrow2⟩, Bw.ofRow hbl hg2 (fun x hx => by have := (lt' x hx).1; simpa using this)⟩
        case measure => simp [intOf]; omega
      · have he' : (intAt ps k == x) = false := by simpa using he
        have HN := Lib.hid (show childTo ps x (k + 1) = L by rw [childTo_no he, HL.out])
        clear he
        go_wp2
        go_roundw
        case rel => exact ⟨k + 1, by omega, by go_num, by rw [HN.out]; exact ⟨_, _, rfl, hrow⟩, hbl⟩
        case measure => simp [intOf]; omega
    · go_wp2
      go_ret
      obtain rfl : k = n := by omega
      exact ⟨⟨_, _, rfl, hrow.mono (by omega)⟩, hbw⟩
set_option maxRecDepth 100000 in
theorem c_l6Children (A : Option Addr) (n c : Nat) (ps : List Int) (x : Int) (hg : goodP ps = true) (x0 : 0 ≤ x) (w : World) (h : Rd w A n 1 (ps.map icell)) :
    Calls Tryz.prog 54 #[.agg #[.slice A n c], .int .i64 x] w fun e w' => (∃ A' c', e = .returned (.slice A' (childTo ps x n).length c') ∧ Row w' w.heap.size 3 1 icell A' (childTo ps x n).length c' (childTo ps x n)) ∧ Bw w w' := by
  have hl := Lib.hid h.ilen
  have hn2 : 2 ≤ n := by rw [← hl.out]; exact (goodP_iff.1 hg).1.1
  have hn : n ≤ 8 := by rw [← hl.out]; exact (goodP_iff.1 hg).1.2
  have HO := Lib.hid (childTo_one hg x0)
  have hrw0 := Row.empty (T := Int) (w.alloc (.cells #[.slice A n c] 26)) (w.heap.size + 1) 3 1 icell (by simp)
  simp only [World.size_alloc] at hrw0
  clear hg
  go_enter Tryz.func54, Tryz.ntmps54
  go_wp2
  go_loopw [5, 6] (fun ov i wr => ∃ k : Nat, 1 ≤ k ∧ k ≤ n ∧ i = .int .i64 k ∧ (∃ A c, ov = .slice A (childTo ps x k).length c ∧ Row wr (w.heap.size + 1) 3 1 icell A (childTo ps x k).length c (childTo ps x k)) ∧ Bw (w.alloc (.cells #[.slice A n c] 26)) wr) (fun _ i _ => n - (intOf i).toNat)
  case atStart => exact ⟨1, Nat.le_refl _, by omega, rfl, by rw [HO.out]; exact ⟨_, _, rfl, hrw0⟩, (Bw.refl _).alloc _⟩
  case round =>
    obtain ⟨k, hk1, hk, rfl, ⟨A', c', rfl, hrow⟩, hbl⟩ := hrel
    have hbw : Bw w (wr) := Bw.trans (Bw.alloc (Bw.refl _) _) hbl
    have d0 := hbl.cellv (p := ⟨w.heap.size, 0, none⟩) (v := .slice A n c) (by go_simp)
    have hlk := childTo_len ps x k
    by_cases hlt : k < n
    · obtain ⟨b, off, rfl, hb, hc⟩ := (h.keep hbw).ints (by omega)
      have q0 := hc k hlt
      clear hc
      generalize hL : childTo ps x k = L at hrow hlk
      have HL := Lib.hid hL
      clear hL
      by_cases he : intAt ps k = x
      · have he' : (intAt ps k == x) = true := by simpa using he
        have HN := Lib.hid (show childTo ps x (k + 1) = L ++ [(k : Int)] by rw [childTo_yes he, HL.out])
        have hs0 : w.heap.size + 1 ≤ wr.heap.size := by have := hbl.size; simpa using this
        have lt' := hrow.lt
        clear he
        go_wp2_with ((at_builtin; refine append_int rfl _ _ rfl _ _ _ _ rfl hrow _ _ rfl rfl ?_ ?_ ?_; omega; exact hs0; intro A2 c2 w2 hrow2 hg2 hmv2))
        go_roundw
        case rel => exact ⟨k + 1, by omega, by omega, by go_num, by rw [HN.out]; exact ⟨A2, c2, by simp, by simpa using hrow2⟩, Bw.ofRow hbl hg2 (fun x hx => by have := (lt' x hx).1; simpa using this)⟩
        case measure => simp [intOf]; omega
      · have he' : (intAt ps k == x) = false := by simpa using he
        have HN := Lib.hid (show childTo ps x (k + 1) = L by rw [childTo_no he, HL.out])
        clear he
        go_wp2
        go_roundw
        case rel => exact ⟨k + 1, by omega, by omega, by go_num, by rw [HN.out]; exact ⟨_, _, rfl, hrow⟩, hbl⟩
        case measure => simp [intOf]; omega
    · go_wp2
      go_ret
      obtain rfl : k = n := by omega
      exact ⟨⟨_, _, rfl, hrow.mono (by omega)⟩, hbw⟩
set_option maxRecDepth 100000 in
theorem c_iChildrenOf (A : Option Addr) (n c : Nat) (ps : List Int) (x : Int) (w : World) (hn : n ≤ 9223372036854775807) (h : Rd w A n 1 (ps.map icell)) :
    Calls Tryz.prog 16 #[.agg #[.slice A n c], .int .i64 x] w fun e w' => (∃ A' c', e = .returned (.tuple #[.slice A' (childR ps x).length c', .bool (nodeP ps x)]) ∧ Row w' w.heap.size 3 1 icell A' (childR ps x).length c' (childR ps x)) ∧ Bw w w' := by
  have hl := Lib.hid h.ilen
  have hab := allIn_one n x
  cases hC : nodeP ps x
  · have HR := Lib.hid (show childR ps x = [] by simp [childR, hC])
    have HN := Lib.hid (show (goodP ps && allIn n [x]) = false by rw [hab, ← hC, nodeP, hl.out])
    clear hab hC
    go_enter Tryz.func16, Tryz.ntmps16
    go_wp2_with (go_at_call 33; refine (c_hasNodes _ _ _ ps _ _ _ [x] HN.out _ hn (by omega) (h.keep (Bw.alloc (Bw.alloc (Bw.refl _) _) _)) (by have := Rd.litI (w.alloc (.cells #[.slice A n c] 26)) [x] #[.int .i64 x] 3 1 rfl rfl; simpa using this)).mono ?_; rintro e w1 ⟨rfl, hb1⟩)
    go_ret2
    rw [HR.out]
    exact ⟨⟨_, _, rfl, Row.nil _ _ _ _ _⟩, Bw.trans (Bw.alloc (Bw.alloc (Bw.refl _) _) _) hb1⟩
  · have HR := Lib.hid (show childR ps x = childTo ps x n by simp [childR, hC, hl.out])
    have HN := Lib.hid (show (goodP ps && allIn n [x]) = true by rw [hab, ← hC, nodeP, hl.out])
    have hrg := node_range hC
    have h8 := (goodP_iff.1 hrg.1).1.2
    rw [hl.out] at hrg h8
    clear hab hC
    go_enter Tryz.func16, Tryz.ntmps16
    go_wp2_with (go_at_call 33; refine (c_hasNodes _ _ _ ps _ _ _ [x] HN.out _ hn (by omega) (h.keep (Bw.alloc (Bw.alloc (Bw.refl _) _) _)) (by have := Rd.litI (w.alloc (.cells #[.slice A n c] 26)) [x] #[.int .i64 x] 3 1 rfl rfl; simpa using this)).mono ?_; rintro e w1 ⟨rfl, hb1⟩; have d1 := hb1.cellv (p := ⟨w.heap.size, 0, none⟩) (v := .slice A n c) (by go_simp))
    have hbw1 : Bw w w1 := Bw.trans (Bw.alloc (Bw.alloc (Bw.refl _) _) _) hb1
    refine (c_children _ _ _ ps x _ h8 (h.keep hbw1)).mono ?_
    rintro e w2 ⟨⟨A2, c2, rfl, row2⟩, hb2⟩
    go_wp2_with fail
    go_ret2
    rw [HR.out]
    exact ⟨⟨_, _, rfl, row2.mono hbw1.size⟩, hbw1.trans hb2⟩
end Go.Proofs.YthciecmofgoebaaGreatDoor
