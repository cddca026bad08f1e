
/- NodesBelow: both sides come to one function. -/
import Derived.Test.YthciecmofgoebaaP5
namespace Go.Proofs.Ythciecmofgoebaa
open Go.RowKit
def belowTo (ps : List Int) (x : Int) (k : Nat) : List Int := ((List.range k).filter (fun (i : Nat) => hasI (pathP ps (i : Int)) x)).map (fun (i : Nat) => (i : Int))
theorem belowTo_yes {ps : List Int} {x : Int} {k : Nat} (h : hasI (pathP ps (k : Int)) x = true) : belowTo ps x (k + 1) = belowTo ps x k ++ [(k : Int)] := by
  simp [belowTo, List.range_succ, h]
theorem belowTo_no {ps : List Int} {x : Int} {k : Nat} (h : hasI (pathP ps (k : Int)) x = false) : belowTo ps x (k + 1) = belowTo ps x k := by
  simp [belowTo, List.range_succ, h]
theorem belowTo_len (ps : List Int) (x : Int) (k : Nat) : (belowTo ps x k).length ≤ k := by
  have := List.length_filter_le (fun (i : Nat) => hasI (pathP ps (i : Int)) x) (List.range k)
  simpa [belowTo] using this
def belowR (ps : List Int) (x : Int) : List Int := if nodeP ps x then belowTo ps x ps.length else []
theorem belowR_len (ps : List Int) (x : Int) : (belowR ps x).length ≤ ps.length := by
  unfold belowR; split
  · exact belowTo_len _ _ _
  · simp
theorem c_below (A : Option Addr) (n c : Nat) (ps : List Int) (x : Int) (hg : goodP ps = true) (w : World) (h : Rd w A n 1 (ps.map icell)) :
    Calls Try.prog 25 #[.agg #[.slice A n c], .int .i64 x] w fun e w' => (∃ A' c', e = .returned (.slice A' (belowTo ps x n).length c') ∧ Row w' w.heap.size 3 1 icell A' (belowTo ps x n).length c' (belowTo ps x n)) ∧ Bw w w' := by
  have hl := Lib.hid h.ilen
  have hn8 : n ≤ 8 := by rw [← hl.out]; exact (goodP_iff.1 hg).1.2
  have Hg := Lib.hid hg
  clear hg
  go_enter Try.func25, Try.ntmps25
  go_wp2
  go_loopw [5, 10] (fun ov i wr => ∃ k : Nat, k ≤ n ∧ i = .int .i64 k ∧ (∃ A c, ov = .slice A (belowTo ps x k).length c ∧ Row wr (w.heap.size + 1) 3 1 icell A (belowTo ps x k).length c (belowTo ps x k)) ∧ Bw (w.alloc (.cells #[.slice A n c] 26)) wr) (fun _ i _ => n - (intOf i).toNat)
  case atStart => exact ⟨0, Nat.zero_le _, rfl, ⟨_, _, rfl, Row.nil _ _ _ _ _⟩, Bw.refl _⟩
  case round =>
    obtain ⟨k, hk, rfl, ⟨A', c', rfl, hrow⟩, hbl⟩ := hrel
    have hbw : Bw w (wr) := Bw.trans (Bw.alloc (Bw.refl _) _) hbl
    have d0 := hbl.cellv (p := ⟨w.heap.size, 0, none⟩) (v := .slice A n c) (by go_simp)
    have hlk := belowTo_len ps x k
    by_cases hlt : k < n
    · have hlp := pathP_len ps (k : Int)
      generalize hpp : pathP ps (k : Int) = pp at hlp
      have HP := Lib.hid hpp
      clear hpp
      generalize hL : belowTo ps x k = L at hrow hlk
      have HL := Lib.hid hL
      clear hL
      cases hh : hasI pp x
      · have HN := Lib.hid (show belowTo ps x (k + 1) = L by rw [belowTo_no (by rw [HP.out]; exact hh), HL.out])
        go_wp2_with (first | (go_at_call 22; refine (c_path _ _ _ ps (k : Int) Hg.out (by omega) (by omega) _ (h.keep hbw)).mono ?_; rw [HP.out]; rintro e w5 ⟨⟨A5, c5, rfl, row5⟩, hb5⟩) | (go_at_call 30; refine (c_Contains _ _ _ pp x hh _ (by omega) (row5.rd (fun _ => rfl))).mono ?_; rintro e w6 ⟨rfl, rfl⟩))
        go_roundw
        case rel => exact ⟨k + 1, by omega, by go_num, by rw [HN.out]; exact ⟨_, _, rfl, hrow.keep hb5⟩, hbl.trans hb5⟩
        case measure => simp [intOf]; omega
      · have HN := Lib.hid (show belowTo ps x (k + 1) = L ++ [(k : Int)] by rw [belowTo_yes (by rw [HP.out]; exact hh), HL.out])
        have hs0 : w.heap.size + 1 ≤ wr.heap.size := by have := hbl.size; simpa using this
        have lt' := hrow.lt
        go_wp2_with (first | (go_at_call 22; refine (c_path _ _ _ ps (k : Int) Hg.out (by omega) (by omega) _ (h.keep hbw)).mono ?_; rw [HP.out]; rintro e w5 ⟨⟨A5, c5, rfl, row5⟩, hb5⟩; have hs5 := hb5.size; replace hrow := hrow.keep hb5) | (go_at_call 30; refine (c_Contains _ _ _ pp x hh _ (by omega) (row5.rd (fun _ => rfl))).mono ?_; rintro e w6 ⟨rfl, rfl⟩) | (at_builtin; refine append_int rfl _ _ rfl _ _ _ _ rfl hrow _ _ rfl rfl ?_ ?_ ?_; omega; exact Nat.le_trans hs0 hs5; intro A2 c2 w2 hrow2 hg2 hmv2))
        go_roundw
        case rel => exact ⟨k + 1, by omega, by go_num, by rw [HN.out]; exact ⟨A2, c2, by simp, by simpa using hrow2⟩, Bw.ofRow (hbl.trans hb5) hg2 (fun x hx => by have := (lt' x hx).1; simpa using this)⟩
        case measure => simp [intOf]; omega
    · go_wp2
      go_ret
      obtain rfl : k = n := by omega
      exact ⟨⟨_, _, rfl, hrow.mono (by omega)⟩, hbw⟩
set_option maxRecDepth 100000 in
theorem c_iNodesBelow (A : Option Addr) (n c : Nat) (ps : List Int) (x : Int) (w : World) (hn : n ≤ 9223372036854775807) (h : Rd w A n 1 (ps.map icell)) :
    Calls Try.prog 9 #[.agg #[.slice A n c], .int .i64 x] w fun e w' => (∃ A' c', e = .returned (.tuple #[.slice A' (belowR ps x).length c', .bool (nodeP ps x)]) ∧ Row w' w.heap.size 3 1 icell A' (belowR ps x).length c' (belowR ps x)) ∧ Bw w w' := by
  have hl := Lib.hid h.ilen
  have hab := allIn_one n x
  cases hC : nodeP ps x
  · have HR := Lib.hid (show belowR ps x = [] by simp [belowR, hC])
    have HN := Lib.hid (show (goodP ps && allIn n [x]) = false by rw [hab, ← hC, nodeP, hl.out])
    clear hab hC
    go_enter Try.func9, Try.ntmps9
    go_wp2_with (go_at_call 21; refine (c_hasNodes _ _ _ ps _ _ _ [x] HN.out _ hn (by omega) (h.keep (Bw.alloc (Bw.alloc (Bw.refl _) _) _)) (by have := Rd.litI (w.alloc (.cells #[.slice A n c] 26)) [x] #[.int .i64 x] 3 1 rfl rfl; simpa using this)).mono ?_; rintro e w1 ⟨rfl, hb1⟩)
    go_ret2
    rw [HR.out]
    exact ⟨⟨_, _, rfl, Row.nil _ _ _ _ _⟩, Bw.trans (Bw.alloc (Bw.alloc (Bw.refl _) _) _) hb1⟩
  · have HR := Lib.hid (show belowR ps x = belowTo ps x n by simp [belowR, hC, hl.out])
    have HN := Lib.hid (show (goodP ps && allIn n [x]) = true by rw [hab, ← hC, nodeP, hl.out])
    simp only [nodeP, Bool.and_eq_true] at hC
    have Hg := Lib.hid hC.1
    clear hab hC
    go_enter Try.func9, Try.ntmps9
    go_wp2_with (go_at_call 21; refine (c_hasNodes _ _ _ ps _ _ _ [x] HN.out _ hn (by omega) (h.keep (Bw.alloc (Bw.alloc (Bw.refl _) _) _)) (by have := Rd.litI (w.alloc (.cells #[.slice A n c] 26)) [x] #[.int .i64 x] 3 1 rfl rfl; simpa using this)).mono ?_; rintro e w1 ⟨rfl, hb1⟩; have d1 := hb1.cellv (p := ⟨w.heap.size, 0, none⟩) (v := .slice A n c) (by go_simp))
    have hbw1 : Bw w w1 := Bw.trans (Bw.alloc (Bw.alloc (Bw.refl _) _) _) hb1
    refine (c_below _ _ _ ps x Hg.out _ (h.keep hbw1)).mono ?_
    rintro e w2 ⟨⟨A2, c2, rfl, row2⟩, hb2⟩
    go_wp2_with fail
    go_ret2
    rw [HR.out]
    exact ⟨⟨_, _, rfl, row2.mono hbw1.size⟩, hbw1.trans hb2⟩
set_option maxRecDepth 100000 in
theorem c_sNodesBelow (A : Option Addr) (n c : Nat) (ps : List Int) (x : Int) (w : World) (hn : n ≤ 9223372036854775807) (h : Rd w A n 1 (ps.map icell)) :
    Calls Try.prog 10 #[.agg #[.slice A n c], .int .i64 x] w fun e w' => (∃ A' c', e = .returned (.tuple #[.slice A' (belowR ps x).length c', .bool (nodeP ps x)]) ∧ Row w' w.heap.size 3 1 icell A' (belowR ps x).length c' (belowR ps x)) ∧ Bw w w' := by
  have hl := Lib.hid h.ilen
  cases hC : nodeP ps x
  · have HR := Lib.hid (show belowR ps x = [] by simp [belowR, hC])
    have HC := Lib.hid hC
    clear hC
    go_enter Try.func10, Try.ntmps10
    go_wp2_with (go_at_call 23; refine (c_l6Node _ _ _ ps x HC.out _ hn (h.keep (Bw.alloc (Bw.alloc (Bw.refl _) _) _))).mono ?_; rintro e w1 ⟨rfl, hb1⟩)
    go_ret2
    rw [HR.out]
    have hrw := (Row.empty (T := Int) (w.alloc (.cells #[.slice A n c] 26)) (w.heap.size) 3 1 icell (by simp)).keep hb1
    exact ⟨⟨_, _, rfl, by simpa using hrw⟩, Bw.trans (Bw.alloc (Bw.alloc (Bw.refl _) _) _) hb1⟩
  · have HR := Lib.hid (show belowR ps x = belowTo ps x n by simp [belowR, hC, hl.out])
    have HC := Lib.hid hC
    have hC' := hC
    simp only [nodeP, Bool.and_eq_true] at hC'
    have Hg := Lib.hid hC'.1
    have hn8 : n ≤ 8 := by rw [← hl.out]; exact (goodP_iff.1 hC'.1).1.2
    clear hC hC'
    have hrw0 := Row.empty (T := Int) (w.alloc (.cells #[.slice A n c] 26)) (w.heap.size + 1) 3 1 icell (by simp)
    simp only [World.size_alloc] at hrw0
    go_enter Try.func10, Try.ntmps10
    go_wp2_with (go_at_call 23; refine (c_l6Node _ _ _ ps x HC.out _ hn (h.keep (Bw.alloc (Bw.alloc (Bw.refl _) _) _))).mono ?_; rintro e w1 ⟨rfl, hb1⟩)
    have hbw1 : Bw (w.alloc (.cells #[.slice A n c] 26)) w1 := Bw.trans (Bw.alloc (Bw.refl _) _) hb1
    have hrw1 := hrw0.keep hb1
    clear hrw0
    go_loopw [6, 7] (fun ov i wr => ∃ k : Nat, k ≤ n ∧ i = .int .i64 k ∧ (∃ A c, ov = .slice A (belowTo ps x k).length c ∧ Row wr (w.heap.size + 1) 3 1 icell A (belowTo ps x k).length c (belowTo ps x k)) ∧ Bw (w.alloc (.cells #[.slice A n c] 26)) wr) (fun _ i _ => n - (intOf i).toNat)
    case atStart => exact ⟨0, Nat.zero_le _, rfl, ⟨_, _, rfl, hrw1⟩, hbw1⟩
    case round =>
      obtain ⟨k, hk, rfl, ⟨A', c', rfl, hrow⟩, hbl⟩ := hrel
      have hbw : Bw w (wr) := Bw.trans (Bw.alloc (Bw.refl _) _) hbl
      have d0 := hbl.cellv (p := ⟨w.heap.size, 0, none⟩) (v := .slice A n c) (by go_simp)
      have hlk := belowTo_len ps x k
      by_cases hlt : k < n
      · have hlp := pathP_len ps (k : Int)
        generalize hpp : pathP ps (k : Int) = pp at hlp
        have HP := Lib.hid hpp
        clear hpp
        generalize hL : belowTo ps x k = L at hrow hlk
        have HL := Lib.hid hL
        clear hL
        cases hh : hasI pp x
        · have HN := Lib.hid (show belowTo ps x (k + 1) = L by rw [belowTo_no (by rw [HP.out]; exact hh), HL.out])
          go_wp2_with (first | (go_at_call 24; refine (c_l6Path _ _ _ ps (k : Int) Hg.out (by omega) (by omega) _ (h.keep hbw)).mono ?_; rw [HP.out]; rintro e w5 ⟨⟨A5, c5, rfl, row5⟩, hb5⟩) | (go_at_call 26; refine (c_l1Has _ _ _ pp x hh _ (by omega) (row5.rd (fun _ => rfl))).mono ?_; rintro e w6 ⟨rfl, rfl⟩))
          go_roundw
          case rel => exact ⟨k + 1, by omega, by go_num, by rw [HN.out]; exact ⟨_, _, rfl, hrow.keep hb5⟩, hbl.trans hb5⟩
          case measure => simp [intOf]; omega
        · have HN := Lib.hid (show belowTo ps x (k + 1) = L ++ [(k : Int)] by rw [belowTo_yes (by rw [HP.out]; exact hh), HL.out])
          have hs0 : w.heap.size + 1 ≤ wr.heap.size := by have := hbl.size; simpa using this
          have lt' := hrow.lt
          go_wp2_with (first | (go_at_call 24; refine (c_l6Path _ _ _ ps (k : Int) Hg.out (by omega) (by omega) _ (h.keep hbw)).mono ?_; rw [HP.out]; rintro e w5 ⟨⟨A5, c5, rfl, row5⟩, hb5⟩; have hs5 := hb5.size; replace hrow := hrow.keep hb5) | (go_at_call 26; refine (c_l1Has _ _ _ pp x hh _ (by omega) (row5.rd (fun _ => rfl))).mono ?_; rintro e w6 ⟨rfl, rfl⟩) | (at_builtin; refine append_int rfl _ _ rfl _ _ _ _ rfl hrow _ _ rfl rfl ?_ ?_ ?_; omega; exact Nat.le_trans hs0 hs5; intro A2 c2 w2 hrow2 hg2 hmv2))
          go_roundw
          case rel => exact ⟨k + 1, by omega, by go_num, by rw [HN.out]; exact ⟨A2, c2, by simp, by simpa using hrow2⟩, Bw.ofRow (hbl.trans hb5) hg2 (fun x hx => by have := (lt' x hx).1; simpa using this)⟩
          case measure => simp [intOf]; omega
      · go_wp2
        go_ret2
        obtain rfl : k = n := by omega
        rw [HR.out]
        exact ⟨⟨_, _, rfl, hrow.mono (by omega)⟩, hbw⟩
end Go.Proofs.Ythciecmofgoebaa
