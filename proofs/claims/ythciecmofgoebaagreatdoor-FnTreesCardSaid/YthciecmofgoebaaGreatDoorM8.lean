
/- Leaves; a new leaf: both sides. -/
import Derived.Test.YthciecmofgoebaaGreatDoorM2
import Derived.Test.YthciecmofgoebaaGreatDoorIC
import Derived.Test.YthciecmofgoebaaGreatDoorK15
import Derived.Deep.RegionLaw
namespace Go.Proofs.YthciecmofgoebaaGreatDoor
open Go.RowKit
def leafTo (ps : List Int) (k : Nat) : List Int := ((List.range k).filter (fun (i : Nat) => !hasI ps (i : Int))).map (fun (i : Nat) => (i : Int))
theorem leafTo_yes {ps : List Int} {k : Nat} (h : hasI ps (k : Int) = false) : leafTo ps (k + 1) = leafTo ps k ++ [(k : Int)] := by
  simp [leafTo, List.range_succ, h]
theorem leafTo_no {ps : List Int} {k : Nat} (h : hasI ps (k : Int) = true) : leafTo ps (k + 1) = leafTo ps k := by
  simp [leafTo, List.range_succ, h]
theorem leafTo_len (ps : List Int) (k : Nat) : (leafTo ps k).length ≤ k := by
  have := List.length_filter_le (fun (i : Nat) => !hasI ps (i : Int)) (List.range k)
  simpa [leafTo] using this
theorem leafTo_one {ps : List Int} (hg : goodP ps = true) : leafTo ps 1 = [] := by
  have h2 := (goodP_iff.1 hg).1.1
  have := goodP_lt hg (k := 1) (by omega)
  have h3 := (goodP_iff.1 hg).2 1 (by omega)
  have h0 : intAt ps 1 = 0 := by
    simp [stepP] at h3
    have := inR_iff.1 h3
    omega
  rw [leafTo_no (hasI_at (k := 1) (by omega) (by rw [h0]; rfl))]; rfl
theorem leafTo_mem {ps : List Int} {k : Nat} {x : Int} : x ∈ leafTo ps k ↔ ∃ i : Nat, i < k ∧ hasI ps (i : Int) = false ∧ x = i := by
  simp only [leafTo, List.mem_map, List.mem_filter, List.mem_range, Bool.not_eq_true']
  constructor
  · rintro ⟨i, ⟨h1, h2⟩, rfl⟩; exact ⟨i, h1, h2, rfl⟩
  · rintro ⟨i, h1, h2, rfl⟩; exact ⟨i, ⟨h1, h2⟩, rfl⟩
theorem child_none {ps : List Int} {x : Int} : (childTo ps x ps.length).length = 0 ↔ hasI ps x = false := by
  constructor
  · intro h
    refine hasI_none fun j hj e => ?_
    have hm : (j : Int) ∈ childTo ps x ps.length := by
      simp only [childTo, List.mem_map, List.mem_filter, List.mem_range]
      exact ⟨j, ⟨hj, by simpa using e⟩, rfl⟩
    rw [List.eq_nil_of_length_eq_zero h] at hm
    cases hm
  · intro h
    rw [List.length_eq_zero_iff]
    simp only [childTo, List.map_eq_nil_iff, List.filter_eq_nil_iff, List.mem_range]
    intro j hj e
    rw [hasI_at hj (by simpa using e)] at h
    cases h
def leafR (ps : List Int) : List Int := if goodP ps then leafTo ps ps.length else []
theorem leafR_len (ps : List Int) : (leafR ps).length ≤ ps.length := by
  unfold leafR; split
  · exact leafTo_len _ _
  · simp
theorem leafR_pos {ps : List Int} (hg : goodP ps = true) : 0 < (leafR ps).length := by
  have h2 := (goodP_iff.1 hg).1.1
  have hm : ((ps.length - 1 : Nat) : Int) ∈ leafR ps := by
    rw [leafR, if_pos hg, leafTo_mem]
    refine ⟨ps.length - 1, by omega, hasI_none fun j hj e => ?_, rfl⟩
    have := goodP_lt hg hj
    omega
  exact List.length_pos_of_mem hm
set_option maxRecDepth 100000 in
theorem c_isLeaf (A : Option Addr) (n c : Nat) (ps : List Int) (x : Int) {r : Bool} (hr : hasI ps x = r) (w : World) (hn : n ≤ 9223372036854775807) (h : Rd w A n 1 (ps.map icell)) :
    Calls Tryz.prog 53 #[.agg #[.slice A n c], .int .i64 x] w fun e w' => e = .returned (.bool (!r)) ∧ Bw w w' := by
  have hbx := (Bw.refl w).alloc (.cells #[.slice A n c] 26)
  go_enter Tryz.func53, Tryz.ntmps53
  go_wp2_with (go_at_call 66; refine (c_Contains _ _ _ ps x hr _ hn (h.keep hbx)).mono ?_; rintro e _ ⟨rfl, rfl⟩)
  go_ret
  exact ⟨rfl, hbx⟩
set_option maxRecDepth 100000 in
theorem c_leaves (A : Option Addr) (n c : Nat) (ps : List Int) (w : World) (hn : n ≤ 8) (h : Rd w A n 1 (ps.map icell)) :
    Calls Tryz.prog 38 #[.agg #[.slice A n c]] w fun e w' => (∃ A' c', e = .returned (.slice A' (leafTo ps n).length c') ∧ Row w' w.heap.size 3 1 icell A' (leafTo ps n).length c' (leafTo ps n)) ∧ Bw w w' := by
  have hl := Lib.hid h.ilen
  go_enter Tryz.func38, Tryz.ntmps38
  go_wp2
  go_loopw [3, 8] (fun ov i wr => ∃ k : Nat, k ≤ n ∧ i = .int .i64 k ∧ (∃ A c, ov = .slice A (leafTo ps k).length c ∧ Row wr (w.heap.size + 1) 3 1 icell A (leafTo ps k).length c (leafTo ps k)) ∧ Bw (w.alloc (.cells #[.slice A n c] 26)) wr) (fun _ i _ => n - (intOf i).toNat)
  case atStart => exact ⟨0, Nat.zero_le _, rfl, ⟨_, _, rfl, Row.nil _ _ _ _ _⟩, Bw.refl _⟩
  case round =>
    obtain ⟨k, hk, rfl, ⟨A', c', rfl, hrow⟩, hbl⟩ := hrel
    have hbw : Bw w (wr) := Bw.trans (Bw.alloc (Bw.refl _) _) hbl
    have d0 := hbl.cellv (p := ⟨w.heap.size, 0, none⟩) (v := .slice A n c) (by go_simp)
    have hlk := leafTo_len ps k
    by_cases hlt : k < n
    · generalize hL : leafTo ps k = L at hrow hlk
      have HL := Lib.hid hL
      clear hL
      cases hh : hasI ps (k : Int)
      · have HN := Lib.hid (show leafTo ps (k + 1) = L ++ [(k : Int)] by rw [leafTo_yes hh, HL.out])
        have hs0 : w.heap.size + 1 ≤ wr.heap.size := by have := hbl.size; simpa using this
        have lt' := hrow.lt
        go_wp2_with (first | (go_at_call 53; refine (c_isLeaf _ _ _ ps (k : Int) hh _ (by omega) (h.keep hbw)).mono ?_; rintro e w5 ⟨rfl, hb5⟩; have hs5 := hb5.size; replace hrow := hrow.keep hb5) | (at_builtin; refine append_int rfl _ _ rfl _ _ _ _ rfl hrow _ _ rfl rfl ?_ ?_ ?_; omega; exact Nat.le_trans hs0 hs5; intro A2 c2 w2 hrow2 hg2 hmv2))
        go_roundw
        case rel => exact ⟨k + 1, by omega, by go_num, by rw [HN.out]; exact ⟨A2, c2, by simp, by simpa using hrow2⟩, Bw.ofRow (hbl.trans hb5) hg2 (fun x hx => by have := (lt' x hx).1; simpa using this)⟩
        case measure => simp [intOf]; omega
      · have HN := Lib.hid (show leafTo ps (k + 1) = L by rw [leafTo_no hh, HL.out])
        go_wp2_with (go_at_call 53; refine (c_isLeaf _ _ _ ps (k : Int) hh _ (by omega) (h.keep hbw)).mono ?_; rintro e w5 ⟨rfl, hb5⟩)
        go_roundw
        case rel => exact ⟨k + 1, by omega, by go_num, by rw [HN.out]; exact ⟨_, _, rfl, hrow.keep hb5⟩, hbl.trans hb5⟩
        case measure => simp [intOf]; omega
    · go_wp2
      go_ret
      obtain rfl : k = n := by omega
      exact ⟨⟨_, _, rfl, hrow.mono (by omega)⟩, hbw⟩
set_option maxRecDepth 100000 in
theorem c_l6Leaves (A : Option Addr) (n c : Nat) (ps : List Int) (hg : goodP ps = true) (w : World) (h : Rd w A n 1 (ps.map icell)) :
    Calls Tryz.prog 39 #[.agg #[.slice A n c]] w fun e w' => (∃ A' c', e = .returned (.slice A' (leafTo ps n).length c') ∧ Row w' w.heap.size 3 1 icell A' (leafTo ps n).length c' (leafTo ps n)) ∧ Bw w w' := by
  have hl := Lib.hid h.ilen
  have hn2 : 2 ≤ n := by rw [← hl.out]; exact (goodP_iff.1 hg).1.1
  have hn : n ≤ 8 := by rw [← hl.out]; exact (goodP_iff.1 hg).1.2
  have HO := Lib.hid (leafTo_one hg)
  have HG := Lib.hid hg
  have HCN := Lib.hid (fun x => show (childTo ps x n).length = 0 ↔ hasI ps x = false by rw [← hl.out]; exact child_none)
  have hrw0 := Row.empty (T := Int) (w.alloc (.cells #[.slice A n c] 26)) (w.heap.size + 1) 3 1 icell (by simp)
  simp only [World.size_alloc] at hrw0
  clear hg
  go_enter Tryz.func39, Tryz.ntmps39
  go_wp2
  go_loopw [3, 4] (fun ov i wr => ∃ k : Nat, 1 ≤ k ∧ k ≤ n ∧ i = .int .i64 k ∧ (∃ A c, ov = .slice A (leafTo ps k).length c ∧ Row wr (w.heap.size + 1) 3 1 icell A (leafTo ps k).length c (leafTo ps k)) ∧ Bw (w.alloc (.cells #[.slice A n c] 26)) wr) (fun _ i _ => n - (intOf i).toNat)
  case atStart => exact ⟨1, Nat.le_refl _, by omega, rfl, by rw [HO.out]; exact ⟨_, _, rfl, hrw0⟩, (Bw.refl _).alloc _⟩
  case round =>
    obtain ⟨k, hk1, hk, rfl, ⟨A', c', rfl, hrow⟩, hbl⟩ := hrel
    have hbw : Bw w (wr) := Bw.trans (Bw.alloc (Bw.refl _) _) hbl
    have d0 := hbl.cellv (p := ⟨w.heap.size, 0, none⟩) (v := .slice A n c) (by go_simp)
    have hlk := leafTo_len ps k
    by_cases hlt : k < n
    · generalize hL : leafTo ps k = L at hrow hlk
      have HL := Lib.hid hL
      clear hL
      have HC := Lib.hid (c_l6Children A n c ps (k : Int) HG.out (by omega) wr (h.keep hbw))
      have hcn := HCN.out (k : Int)
      generalize childTo ps (k : Int) n = Ck at HC hcn
      cases hh : hasI ps (k : Int)
      · have HN := Lib.hid (show leafTo ps (k + 1) = L ++ [(k : Int)] by rw [leafTo_yes hh, HL.out])
        have hs0 : w.heap.size + 1 ≤ wr.heap.size := by have := hbl.size; simpa using this
        have lt' := hrow.lt
        have h0 : Ck.length = 0 := hcn.2 hh
        rw [h0] at HC
        clear hcn h0
        go_wp2_with (first | (go_at_call 54; refine HC.out.mono ?_; rintro e w5 ⟨⟨A5, c5, rfl, row5⟩, hb5⟩; have hs5 := hb5.size; replace hrow := hrow.keep hb5) | (at_builtin; refine append_int rfl _ _ rfl _ _ _ _ rfl hrow _ _ rfl rfl ?_ ?_ ?_; omega; exact Nat.le_trans hs0 hs5; intro A2 c2 w2 hrow2 hg2 hmv2))
        go_roundw
        case rel => exact ⟨k + 1, by omega, by omega, by go_num, by rw [HN.out]; exact ⟨A2, c2, by simp, by simpa using hrow2⟩, Bw.ofRow (hbl.trans hb5) hg2 (fun x hx => by have := (lt' x hx).1; simpa using this)⟩
        case measure => simp [intOf]; omega
      · have HN := Lib.hid (show leafTo ps (k + 1) = L by rw [leafTo_no hh, HL.out])
        have h0 : ((Ck.length : Int) == 0) = false := by
          rw [beq_eq_false_iff_ne]; intro e
          have := hcn.1 (by omega)
          rw [hh] at this; cases this
        clear hcn
        go_wp2_with (go_at_call 54; refine HC.out.mono ?_; rintro e w5 ⟨⟨A5, c5, rfl, row5⟩, hb5⟩)
        go_roundw
        case rel => exact ⟨k + 1, by omega, by omega, by go_num, by rw [HN.out]; exact ⟨_, _, rfl, hrow.keep hb5⟩, hbl.trans hb5⟩
        case measure => simp [intOf]; omega
    · go_wp2
      go_ret
      obtain rfl : k = n := by omega
      exact ⟨⟨_, _, rfl, hrow.mono (by omega)⟩, hbw⟩
set_option maxRecDepth 100000 in
theorem c_iLeavesOf (A : Option Addr) (n c : Nat) (ps : List Int) (w : World) (hn : n ≤ 9223372036854775807) (h : Rd w A n 1 (ps.map icell)) :
    Calls Tryz.prog 17 #[.agg #[.slice A n c]] w fun e w' => (∃ A' c', e = .returned (.tuple #[.slice A' (leafR ps).length c', .bool (goodP ps)]) ∧ Row w' w.heap.size 3 1 icell A' (leafR ps).length c' (leafR ps)) ∧ Bw w w' := by
  have hl := Lib.hid h.ilen
  have hbx := (Bw.refl w).alloc (.cells #[.slice A n c] 26)
  cases hC : goodP ps
  · have HR := Lib.hid (show leafR ps = [] by simp [leafR, hC])
    have HC := Lib.hid hC
    clear hC
    go_enter Tryz.func17, Tryz.ntmps17
    go_wp2_with (go_at_call 9; refine (c_IsValidTree _ _ _ ps HC.out _ hn (h.keep hbx)).mono ?_; rintro e w1 ⟨rfl, hb1⟩)
    go_ret2
    rw [HR.out]
    exact ⟨⟨_, _, rfl, Row.nil _ _ _ _ _⟩, hbx.trans hb1⟩
  · have HR := Lib.hid (show leafR ps = leafTo ps n by simp [leafR, hC, hl.out])
    have HC := Lib.hid hC
    have h8 : n ≤ 8 := by rw [← hl.out]; exact (goodP_iff.1 hC).1.2
    clear hC
    go_enter Tryz.func17, Tryz.ntmps17
    go_wp2_with (go_at_call 9; refine (c_IsValidTree _ _ _ ps HC.out _ hn (h.keep hbx)).mono ?_; rintro e w1 ⟨rfl, hb1⟩; have d1 := hb1.cellv (p := ⟨w.heap.size, 0, none⟩) (v := .slice A n c) (by go_simp))
    have hbw1 := hbx.trans hb1
    refine (c_leaves _ _ _ ps _ h8 (h.keep hbw1)).mono ?_
    rintro e w2 ⟨⟨A2, c2, rfl, row2⟩, hb2⟩
    go_wp2_with fail
    go_ret2
    rw [HR.out]
    exact ⟨⟨_, _, rfl, row2.mono hbw1.size⟩, hbw1.trans hb2⟩
set_option maxRecDepth 100000 in
theorem c_sLeavesOf (A : Option Addr) (n c : Nat) (ps : List Int) (w : World) (hn : n ≤ 9223372036854775807) (h : Rd w A n 1 (ps.map icell)) :
    Calls Tryz.prog 20 #[.agg #[.slice A n c]] w fun e w' => (∃ A' c', e = .returned (.tuple #[.slice A' (leafR ps).length c', .bool (goodP ps)]) ∧ Row w' w.heap.size 3 1 icell A' (leafR ps).length c' (leafR ps)) ∧ Bw w w' := by
  have hl := Lib.hid h.ilen
  have hbx := (Bw.refl w).alloc (.cells #[.slice A n c] 26)
  cases hC : goodP ps
  · have HR := Lib.hid (show leafR ps = [] by simp [leafR, hC])
    have HC := Lib.hid hC
    clear hC
    go_enter Tryz.func20, Tryz.ntmps20
    go_wp2_with (go_at_call 25; refine (c_l6Good _ _ _ ps HC.out _ hn (h.keep hbx)).mono ?_; rintro e w1 ⟨rfl, hb1⟩)
    go_ret2
    rw [HR.out]
    have hrw := Row.empty (T := Int) w1 w.heap.size 3 1 icell (by have := hb1.size; simp at this; omega)
    exact ⟨⟨_, _, rfl, hrw⟩, (hbx.trans hb1).alloc _⟩
  · have HR := Lib.hid (show leafR ps = leafTo ps n by simp [leafR, hC, hl.out])
    have HC := Lib.hid hC
    clear hC
    go_enter Tryz.func20, Tryz.ntmps20
    go_wp2_with (go_at_call 25; refine (c_l6Good _ _ _ ps HC.out _ hn (h.keep hbx)).mono ?_; rintro e w1 ⟨rfl, hb1⟩; have d1 := hb1.cellv (p := ⟨w.heap.size, 0, none⟩) (v := .slice A n c) (by go_simp))
    have hbw1 := hbx.trans hb1
    refine (c_l6Leaves _ _ _ ps HC.out _ (h.keep hbw1)).mono ?_
    rintro e w2 ⟨⟨A2, c2, rfl, row2⟩, hb2⟩
    go_wp2_with fail
    go_ret2
    rw [HR.out]
    exact ⟨⟨_, _, rfl, row2.mono hbw1.size⟩, hbw1.trans hb2⟩
end Go.Proofs.YthciecmofgoebaaGreatDoor
