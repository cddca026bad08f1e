
/- Receivers: the two tests of one; settled ones. -/
import Derived.Test.YtpjljbhodnlhmaaGreatDoorU1
namespace Go.Proofs.YtpjljbhodnlhmaaGreatDoor
open Go.RowKit
def inW (t : Int) (ts : List Slot) (r : Request) : Bool := hasB t ts r.number
def anyW (t : Int) (ts : List Slot) (rs : List Request) : Bool := rs.any (inW t ts)
theorem anyW_yes {t : Int} {ts : List Slot} {rs : List Request} {k : Nat} (hk : k < rs.length) (h : hasB t ts (requestAt rs k).number = true) : anyW t ts rs = true := by
  rw [anyW, List.any_eq_true]; exact ⟨rs[k], List.getElem_mem _, by rw [← requestAt_lt hk]; exact h⟩
theorem anyW_no {t : Int} {ts : List Slot} {rs : List Request} (h : ∀ j, j < rs.length → hasB t ts (requestAt rs j).number = false) : anyW t ts rs = false := by
  rw [anyW, List.any_eq_false]
  intro y hy
  obtain ⟨j, hj, rfl⟩ := List.getElem_of_mem hy
  have := h j hj
  rw [requestAt_lt hj] at this
  simp [inW, this]
theorem idx_anyW (t : Int) (ts : List Slot) (rs : List Request) : decide (0 ≤ idxPI (inW t ts) rs) = anyW t ts rs := by
  rw [idxPI]
  split
  · rename_i h
    have := List.findIdx_getElem (xs := rs) (p := inW t ts) (w := h)
    have h1 : anyW t ts rs = true := by rw [anyW, List.any_eq_true]; exact ⟨_, List.getElem_mem _, this⟩
    simp [h1]
  · rename_i h
    have h1 : anyW t ts rs = false := by
      rw [anyW, List.any_eq_false]
      intro y hy
      have := mt List.findIdx_lt_length.2 h
      simp only [not_exists, not_and] at this
      exact this y hy
    simp [h1]
def rcB (st : Bool) (ck t : Int) (ts : List Slot) (rs : List Request) : Bool := inR ck 0 9999 && (if st then rwB t ts && (goodR rs t && !anyW t ts rs) else decide (t = 0) && (decide (ts.length = 0) && decide (rs.length = 0)))
/-- A request that is near enough is not before the next serial: to be released before or in the window is to be in the window. -/
theorem have_has {t x : Int} (t0 : 0 ≤ t) (t1 : t ≤ 65535) (x0 : 0 ≤ x) (x1 : x ≤ 65535) (h : gapI t x < 8) (ts : List Slot) : haveB t ts x = hasB t ts x := by
  have : befI x t = false := by
    cases hb : befI x t
    · rfl
    · have h2 : inR (gapI x t) 1 32767 = true := hb
      have h3 := inR_iff.1 h2
      unfold gapI at h h3
      omega
  simp [haveB, this]
set_option maxRecDepth 100000 in
theorem c_inW1 (a b e f : Int) (t : Int) (A : Option Addr) (n c : Nat) (ts : List Slot) (p : Nat) (t0 : 0 ≤ t) (t1 : t ≤ 65535) (a0 : 0 ≤ a) (a1 : a ≤ 65535) {r : Bool} (hr : hasB t ts a = r) (w : World) (hn : n ≤ 9223372036854775807) (h : Rd w A n 2 (ts.map Slot.cells)) (p2 : w.cell? ⟨p, 2, none⟩ = some (.int .i64 t)) (p3 : w.cell? ⟨p, 3, none⟩ = some (.slice A n c)) :
    Calls Tryz.prog 135 #[.agg #[.int .i64 a, .int .i64 b, .int .i64 e, .int .i64 f], .pointer (some ⟨p, 0, none⟩)] w fun e w' => e = .returned (.bool r) ∧ Bw w w' := by
  have hlt := World.block_lt_of_cell? w _ p2
  go_enter Tryz.func135, Tryz.ntmps135
  go_wp2_with (go_at_call 136; refine (c_has t _ _ _ ts a t0 t1 a0 a1 hr _ hn (h.keep (Bw.alloc (Bw.refl _) _))).mono ?_; rintro e w1 ⟨rfl, hb1⟩)
  go_ret
  exact ⟨rfl, Bw.trans (Bw.alloc (Bw.refl _) _) hb1⟩
set_option maxRecDepth 100000 in
theorem c_IndexFuncInW (B : Option Addr) (m d : Nat) (rs : List Request) (t : Int) (A : Option Addr) (n c : Nat) (ts : List Slot) (p : Nat) (t0 : 0 ≤ t) (t1 : t ≤ 65535) (hok : ∀ j, j < rs.length → 0 ≤ (requestAt rs j).number ∧ (requestAt rs j).number ≤ 65535) {mm : Int} (hmm : idxPI (inW t ts) rs = mm) (w : World) (hn : n ≤ 9223372036854775807) (hm : m ≤ 9223372036854775807) (hh : Rd w B m 4 (rs.map Request.cells)) (h : Rd w A n 2 (ts.map Slot.cells)) (p2 : w.cell? ⟨p, 2, none⟩ = some (.int .i64 t)) (p3 : w.cell? ⟨p, 3, none⟩ = some (.slice A n c)) :
    Calls Tryz.prog 162 #[.slice B m d, .func (.func 135) #[] #[.pointer (some ⟨p, 0, none⟩)]] w fun e w' => e = .returned (.int .i64 mm) ∧ Bw w w' := by
  subst hmm
  have hl := Lib.hid hh.requestlen
  have Hok := Lib.hid hok
  clear hok
  go_enter Tryz.func162, Tryz.ntmps162
  go_wp2
  go_loopw [8] (fun i wr => ∃ k : Nat, k ≤ m ∧ i = .int .i64 k ∧ (∀ j (hj : j < k) (hj2 : j < rs.length), inW t ts rs[j] = false) ∧ Bw w wr) (fun i _ => m - (intOf i).toNat)
  case atStart => exact ⟨0, Nat.zero_le _, rfl, fun j hj => absurd hj (by omega), Bw.refl _⟩
  case round =>
    obtain ⟨k, hk, rfl, hst, hbl⟩ := hrel
    have Hst := Lib.hid hst
    clear hst
    have q2 := hbl.cellv p2
    have q3 := hbl.cellv p3
    by_cases hkn : k < m
    · obtain ⟨b, off, rfl, hb, hc⟩ := (hh.keep hbl).request (by omega)
      have ⟨h0, h1, h2, h3⟩ := hc k hkn
      clear hc
      have hkt : k < rs.length := by rw [hl.out]; exact hkn
      have Ht := Lib.hid (requestAt_lt hkt)
      have ⟨y0, y1⟩ := Hok.out k hkt
      cases hpp : inW t ts (requestAt rs k)
      · have Hp := Lib.hid (show hasB t ts (requestAt rs k).number = false from hpp)
        go_wp2_with (go_at_call 135; refine (c_inW1 _ _ _ _ t _ _ _ ts p t0 t1 y0 y1 Hp.out _ hn (h.keep hbl) q2 q3).mono ?_; rintro e w1 ⟨rfl, hb1⟩)
        go_roundw
        case rel =>
          refine ⟨k + 1, by omega, by go_num, ?_, hbl.trans hb1⟩
          intro j hj hj2
          rcases Nat.lt_succ_iff_lt_or_eq.1 hj with h9 | h9
          · exact Hst.out j h9 hj2
          · subst h9; rw [← Ht.out]; exact hpp
        case measure => simp [intOf]; omega
      · have Hp := Lib.hid (show hasB t ts (requestAt rs k).number = true from hpp)
        go_wp2_with (go_at_call 135; refine (c_inW1 _ _ _ _ t _ _ _ ts p t0 t1 y0 y1 Hp.out _ hn (h.keep hbl) q2 q3).mono ?_; rintro e w1 ⟨rfl, hb1⟩)
        go_ret
        have he := idxP_eq (p := inW t ts) (ts := rs) hkt (by rw [← Ht.out]; exact hpp) (fun j hj => Hst.out j hj (by omega))
        exact ⟨ret_int (by simp [idxPI, he, hkt]), hbl.trans hb1⟩
    · go_wp2
      go_ret
      have he := idxP_none (p := inW t ts) (ts := rs) (fun j hj => Hst.out j (by rw [hl.out] at hj; omega) hj)
      exact ⟨ret_int (by simp [idxPI, he]), hbl⟩
theorem c_ContainsFuncInW (B : Option Addr) (m d : Nat) (rs : List Request) (t : Int) (A : Option Addr) (n c : Nat) (ts : List Slot) (p : Nat) (t0 : 0 ≤ t) (t1 : t ≤ 65535) (hok : ∀ j, j < rs.length → 0 ≤ (requestAt rs j).number ∧ (requestAt rs j).number ≤ 65535) {r : Bool} (hr : anyW t ts rs = r) (w : World) (hn : n ≤ 9223372036854775807) (hm : m ≤ 9223372036854775807) (hh : Rd w B m 4 (rs.map Request.cells)) (h : Rd w A n 2 (ts.map Slot.cells)) (p2 : w.cell? ⟨p, 2, none⟩ = some (.int .i64 t)) (p3 : w.cell? ⟨p, 3, none⟩ = some (.slice A n c)) :
    Calls Tryz.prog 134 #[.slice B m d, .func (.func 135) #[] #[.pointer (some ⟨p, 0, none⟩)]] w fun e w' => e = .returned (.bool r) ∧ Bw w w' := by
  subst hr
  generalize hmx : idxPI (inW t ts) rs = mm
  have HR := Lib.hid (show decide (0 ≤ mm) = anyW t ts rs by rw [← hmx, idx_anyW])
  have HM := Lib.hid hmx
  clear hmx
  go_enter Tryz.func134, Tryz.ntmps134
  go_wp2_with (go_at_call 162; refine (c_IndexFuncInW _ _ _ rs t _ _ _ ts p t0 t1 hok HM.out _ hn hm hh h p2 p3).mono ?_; rintro e w1 ⟨rfl, hb1⟩)
  go_ret
  exact ⟨ret_bool HR.out, hb1⟩
set_option maxRecDepth 100000 in
set_option maxHeartbeats 1000000 in
theorem c_IsValidReceiver (st : Bool) (ck t : Int) (A : Option Addr) (n c : Nat) (ts : List Slot) (hf : fitL ts) (B : Option Addr) (m d : Nat) (rs : List Request) {r : Bool} (hr : rcB st ck t ts rs = r) (w : World) (hn : n ≤ 9223372036854775807) (hm : m ≤ 9223372036854775807) (h : Rd w A n 2 (ts.map Slot.cells)) (hh : Rd w B m 4 (rs.map Request.cells)) :
    Calls Tryz.prog 95 #[.agg #[.bool st, .int .i64 ck, .int .i64 t, .slice A n c, .slice B m d]] w fun e w' => e = .returned (.bool r) ∧ Bw w w' := by
  subst hr
  have hl := Lib.hid h.slotlen
  have hl2 := Lib.hid hh.requestlen
  have hbx : Bw w (w.alloc (.cells #[.bool st, .int .i64 ck, .int .i64 t, .slice A n c, .slice B m d] 96)) := Bw.alloc (Bw.refl _) _
  cases hk : inR ck 0 9999
  · have HR := Lib.hid (show rcB st ck t ts rs = false by simp [rcB, hk])
    rw [HR.out]
    go_enter Tryz.func95, Tryz.ntmps95
    go_wp2_with (go_at_call 85; refine (c_isClock _ hk _).mono ?_; rintro e w1 ⟨rfl, rfl⟩)
    go_ret
    exact ⟨rfl, hbx⟩
  · cases st
    · have HR := Lib.hid (show rcB false ck t ts rs = (decide (t = 0) && (decide (n = 0) && decide (m = 0))) by simp [rcB, hk, hl.out, hl2.out])
      rw [HR.out]
      by_cases q1 : t = 0
      · subst q1
        by_cases q2 : n = 0
        · subst q2
          by_cases q3 : m = 0
          all_goals
            go_enter Tryz.func95, Tryz.ntmps95
            go_wp2_with (go_at_call 85; refine (c_isClock _ hk _).mono ?_; rintro e w1 ⟨rfl, rfl⟩)
            go_ret
            exact ⟨ret_bool (by simp [q3]), by (repeat (first | with_reducible assumption | exact Bw.refl _ | (with_reducible refine Bw.setCell ?_ (by simp) _) | (with_reducible refine Bw.alloc ?_ _) | (with_reducible refine Bw.drew ?_) | (with_reducible refine Bw.drewN ?_ _)))⟩
        · go_enter Tryz.func95, Tryz.ntmps95
          go_wp2_with (go_at_call 85; refine (c_isClock _ hk _).mono ?_; rintro e w1 ⟨rfl, rfl⟩)
          go_ret
          exact ⟨ret_bool (by simp [q2]), hbx⟩
      · go_enter Tryz.func95, Tryz.ntmps95
        go_wp2_with (go_at_call 85; refine (c_isClock _ hk _).mono ?_; rintro e w1 ⟨rfl, rfl⟩)
        go_ret
        exact ⟨ret_bool (by simp [q1]), hbx⟩
    · cases hg : rwB t ts
      · have HR := Lib.hid (show rcB true ck t ts rs = false by simp [rcB, hg])
        rw [HR.out]
        go_enter Tryz.func95, Tryz.ntmps95
        go_wp2_with (first | (go_at_call 85; refine (c_isClock _ hk _).mono ?_; rintro e w1 ⟨rfl, rfl⟩) | (go_at_call 132; refine (c_IsValidReceiveWindow t _ _ _ ts hf hg _ hn (h.keep hbx)).mono ?_; rintro e w2 ⟨rfl, hb2⟩))
        go_ret
        exact ⟨rfl, hbx.trans hb2⟩
      · have ⟨t0, t1⟩ := inR_iff.1 (rwB_iff.1 hg).1
        have Hg := Lib.hid hg
        cases hgr : goodR rs t
        · have HR := Lib.hid (show rcB true ck t ts rs = false by simp [rcB, hgr])
          rw [HR.out]
          clear hg
          go_enter Tryz.func95, Tryz.ntmps95
          go_wp2_with (first | (go_at_call 85; refine (c_isClock _ hk _).mono ?_; rintro e w1 ⟨rfl, rfl⟩) | (go_at_call 132; refine (c_IsValidReceiveWindow t _ _ _ ts hf Hg.out _ hn (h.keep hbx)).mono ?_; rintro e w2 ⟨rfl, hb2⟩; have d2 := hb2.cellv (p := ⟨w.heap.size, 2, none⟩) (v := .int .i64 t) (by go_simp); have d3 := hb2.cellv (p := ⟨w.heap.size, 3, none⟩) (v := .slice A n c) (by go_simp); have d4 := hb2.cellv (p := ⟨w.heap.size, 4, none⟩) (v := .slice B m d) (by go_simp)) | (go_at_call 133; refine (c_AreRequests _ _ _ rs t hgr _ hm (hh.keep (hbx.trans hb2))).mono ?_; rintro e w3 ⟨rfl, hb3⟩))
          go_ret
          exact ⟨rfl, (hbx.trans hb2).trans hb3⟩
        · have Hgr := Lib.hid hgr
          have hok : ∀ j, j < rs.length → 0 ≤ (requestAt rs j).number ∧ (requestAt rs j).number ≤ 65535 := fun j hj => (goodR_bd hgr hj).1
          have HOK := Lib.hid hok
          generalize hw : anyW t ts rs = aw
          have HR := Lib.hid (show rcB true ck t ts rs = !aw by simp [rcB, hk, hg, hgr, hw])
          rw [HR.out]
          clear hg hgr hok
          go_enter Tryz.func95, Tryz.ntmps95
          go_wp2_with (first | (go_at_call 85; refine (c_isClock _ hk _).mono ?_; rintro e w1 ⟨rfl, rfl⟩) | (go_at_call 132; refine (c_IsValidReceiveWindow t _ _ _ ts hf Hg.out _ hn (h.keep hbx)).mono ?_; rintro e w2 ⟨rfl, hb2⟩; have d2 := hb2.cellv (p := ⟨w.heap.size, 2, none⟩) (v := .int .i64 t) (by go_simp); have d3 := hb2.cellv (p := ⟨w.heap.size, 3, none⟩) (v := .slice A n c) (by go_simp); have d4 := hb2.cellv (p := ⟨w.heap.size, 4, none⟩) (v := .slice B m d) (by go_simp)) | (go_at_call 133; refine (c_AreRequests _ _ _ rs t Hgr.out _ hm (hh.keep (hbx.trans hb2))).mono ?_; rintro e w3 ⟨rfl, hb3⟩; have k3 := (hbx.trans hb2).trans hb3; have e2 := hb3.cellv d2; have e3 := hb3.cellv d3; have e4 := hb3.cellv d4; clear d2 d3 d4) | (go_at_call 134; refine (c_ContainsFuncInW _ _ _ rs t _ _ _ ts w.heap.size t0 t1 HOK.out hw _ hn hm (hh.keep k3) (h.keep k3) e2 e3).mono ?_; rintro e w4 ⟨rfl, hb4⟩))
          go_ret
          exact ⟨ret_bool (by simp), k3.trans hb4⟩
end Go.Proofs.YtpjljbhodnlhmaaGreatDoor
