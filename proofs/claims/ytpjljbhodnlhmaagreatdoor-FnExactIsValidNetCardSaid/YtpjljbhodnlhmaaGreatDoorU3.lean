
/- Receivers: the reference's test; settled ones. -/
import Derived.Test.YtpjljbhodnlhmaaGreatDoorU2
namespace Go.Proofs.YtpjljbhodnlhmaaGreatDoor
open Go.RowKit
theorem rc_win {st : Bool} {ck t : Int} {ts : List Slot} {rs : List Request} (h : rwB t ts = false) : rcB st ck t ts rs = false := by
  cases st
  · cases hx : rcB false ck t ts rs
    · rfl
    · simp only [rcB, Bool.false_eq_true, if_false, Bool.and_eq_true, decide_eq_true_eq] at hx
      obtain ⟨_, h1, h2, _⟩ := hx
      have h3 : ts = [] := List.length_eq_zero_iff.1 h2
      subst h1 h3
      have : rwB 0 [] = true := by decide
      rw [this] at h; cases h
  · simp [rcB, h]
theorem rc_req {st : Bool} {ck t : Int} {ts : List Slot} {rs : List Request} (h : goodR rs t = false) : rcB st ck t ts rs = false := by
  cases st
  · cases hx : rcB false ck t ts rs
    · rfl
    · simp only [rcB, Bool.false_eq_true, if_false, Bool.and_eq_true, decide_eq_true_eq] at hx
      obtain ⟨_, h1, _, h2⟩ := hx
      have h3 : rs = [] := List.length_eq_zero_iff.1 h2
      subst h1 h3
      have : goodR [] 0 = true := by decide
      rw [this] at h; cases h
  · simp [rcB, h]
set_option maxRecDepth 100000 in
set_option maxHeartbeats 1000000 in
theorem c_l13Good (st : Bool) (ck t : Int) (A : Option Addr) (n c : Nat) (ts : List Slot) (hf : fitL ts) (B : Option Addr) (m d : Nat) (rs : List Request) {r : Bool} (hr : rcB st ck t ts rs = r) (w : World) (hn : n ≤ 9223372036854775807) (hm : m ≤ 9223372036854775807) (h : Rd w A n 2 (ts.map Slot.cells)) (hh : Rd w B m 4 (rs.map Request.cells)) :
    Calls Tryz.prog 117 #[.agg #[.bool st, .int .i64 ck, .int .i64 t, .slice A n c, .slice B m d]] w fun e w' => e = .returned (.bool r) ∧ Bw w w' := by
  subst hr
  have hl := Lib.hid h.slotlen
  have hl2 := Lib.hid hh.requestlen
  have hbx : Bw w (w.alloc (.cells #[.bool st, .int .i64 ck, .int .i64 t, .slice A n c, .slice B m d] 96)) := Bw.alloc (Bw.refl _) _
  cases hk : inR ck 0 9999
  · have HR := Lib.hid (show rcB st ck t ts rs = false by simp [rcB, hk])
    rw [HR.out]
    go_enter Tryz.func117, Tryz.ntmps117
    go_wp2_with (go_at_call 98; refine (c_l11Clock _ hk _).mono ?_; rintro e w1 ⟨rfl, rfl⟩)
    go_ret
    exact ⟨rfl, hbx⟩
  · cases hg : rwB t ts
    · have HR := Lib.hid (rc_win (st := st) (ck := ck) (rs := rs) hg)
      rw [HR.out]
      go_enter Tryz.func117, Tryz.ntmps117
      go_wp2_with (first | (go_at_call 98; refine (c_l11Clock _ hk _).mono ?_; rintro e w1 ⟨rfl, rfl⟩) | (go_at_call 147; refine (c_l10Good t _ _ _ ts hf hg _ hn (h.keep hbx)).mono ?_; rintro e w2 ⟨rfl, hb2⟩))
      go_ret
      exact ⟨rfl, hbx.trans hb2⟩
    · have ⟨t0, t1⟩ := inR_iff.1 (rwB_iff.1 hg).1
      have Hg := Lib.hid hg
      cases hgr : goodR rs t
      · have HR := Lib.hid (rc_req (st := st) (ck := ck) (ts := ts) hgr)
        rw [HR.out]
        clear hg
        go_enter Tryz.func117, Tryz.ntmps117
        go_wp2_with (first | (go_at_call 98; refine (c_l11Clock _ hk _).mono ?_; rintro e w1 ⟨rfl, rfl⟩) | (go_at_call 147; refine (c_l10Good t _ _ _ ts hf Hg.out _ hn (h.keep hbx)).mono ?_; rintro e w2 ⟨rfl, hb2⟩; have d2 := hb2.cellv (p := ⟨w.heap.size, 2, none⟩) (v := .int .i64 t) (by go_simp); have d3 := hb2.cellv (p := ⟨w.heap.size, 3, none⟩) (v := .slice A n c) (by go_simp); have d4 := hb2.cellv (p := ⟨w.heap.size, 4, none⟩) (v := .slice B m d) (by go_simp)) | (go_at_call 148; refine (c_l12Good _ _ _ rs t hgr _ hm (hh.keep (hbx.trans hb2))).mono ?_; rintro e w3 ⟨rfl, hb3⟩))
        go_ret
        exact ⟨rfl, (hbx.trans hb2).trans hb3⟩
      · have Hgr := Lib.hid hgr
        have HNB := Lib.hid (show ∀ j, j < rs.length → (0 ≤ (requestAt rs j).number ∧ (requestAt rs j).number ≤ 65535) ∧ gapI t (requestAt rs j).number < 8 from fun j hj => ⟨(goodR_bd hgr hj).1, (goodR_bd hgr hj).2.1⟩)
        cases st
        · have HR := Lib.hid (show rcB false ck t ts rs = ((t == 0) && (((n : Int) == 0) && ((m : Int) == 0))) by rw [Bool.eq_iff_iff]; simp [rcB, hk, hl.out, hl2.out])
          rw [HR.out]
          clear hg hgr HNB
          cases g1 : (t == 0)
          all_goals cases g2 : ((n : Int) == 0)
          all_goals cases g3 : ((m : Int) == 0)
          all_goals
            go_enter Tryz.func117, Tryz.ntmps117
            go_wp2_with (first | (go_at_call 98; refine (c_l11Clock _ hk _).mono ?_; rintro e w1 ⟨rfl, rfl⟩) | (go_at_call 147; refine (c_l10Good t _ _ _ ts hf Hg.out _ hn (h.keep hbx)).mono ?_; rintro e w2 ⟨rfl, hb2⟩; have d0 := hb2.cellv (p := ⟨w.heap.size, 0, none⟩) (v := .bool false) (by go_simp); have d2 := hb2.cellv (p := ⟨w.heap.size, 2, none⟩) (v := .int .i64 t) (by go_simp); have d3 := hb2.cellv (p := ⟨w.heap.size, 3, none⟩) (v := .slice A n c) (by go_simp); have d4 := hb2.cellv (p := ⟨w.heap.size, 4, none⟩) (v := .slice B m d) (by go_simp)) | (go_at_call 148; refine (c_l12Good _ _ _ rs t Hgr.out _ hm (hh.keep (hbx.trans hb2))).mono ?_; rintro e w3 ⟨rfl, hb3⟩; have k3 := (hbx.trans hb2).trans hb3; have e0 := hb3.cellv d0; have e2 := hb3.cellv d2; have e3 := hb3.cellv d3; have e4 := hb3.cellv d4; clear d0 d2 d3 d4))
            go_ret
            exact ⟨rfl, k3⟩
        · have HR := Lib.hid (show rcB true ck t ts rs = !anyW t ts rs by simp [rcB, hk, hg, hgr])
          rw [HR.out]
          clear hg hgr
          go_enter Tryz.func117, Tryz.ntmps117
          go_wp2_with (first | (go_at_call 98; refine (c_l11Clock _ hk _).mono ?_; rintro e w1 ⟨rfl, rfl⟩) | (go_at_call 147; refine (c_l10Good t _ _ _ ts hf Hg.out _ hn (h.keep hbx)).mono ?_; rintro e w2 ⟨rfl, hb2⟩; have d0 := hb2.cellv (p := ⟨w.heap.size, 0, none⟩) (v := .bool true) (by go_simp); have d2 := hb2.cellv (p := ⟨w.heap.size, 2, none⟩) (v := .int .i64 t) (by go_simp); have d3 := hb2.cellv (p := ⟨w.heap.size, 3, none⟩) (v := .slice A n c) (by go_simp); have d4 := hb2.cellv (p := ⟨w.heap.size, 4, none⟩) (v := .slice B m d) (by go_simp)) | (go_at_call 148; refine (c_l12Good _ _ _ rs t Hgr.out _ hm (hh.keep (hbx.trans hb2))).mono ?_; rintro e w3 ⟨rfl, hb3⟩; have k3 := (hbx.trans hb2).trans hb3; have e0 := hb3.cellv d0; have e2 := hb3.cellv d2; have e3 := hb3.cellv d3; have e4 := hb3.cellv d4; clear d0 d2 d3 d4))
          go_loopw [3] (fun i wr => ∃ k : Nat, k ≤ m ∧ i = .int .i64 k ∧ (∀ j, j < k → hasB t ts (requestAt rs j).number = false) ∧ Bw w3 wr) (fun i _ => m - (intOf i).toNat)
          case atStart => exact ⟨0, Nat.zero_le _, rfl, fun j hj => absurd hj (by omega), Bw.refl _⟩
          case round =>
            obtain ⟨k, hkm, rfl, hst, hbl⟩ := hrel
            have Hst := Lib.hid hst
            clear hst
            replace e0 := hbl.cellv e0
            replace e2 := hbl.cellv e2
            replace e3 := hbl.cellv e3
            replace e4 := hbl.cellv e4
            have ld := World.block_lt_of_cell? wr _ e2
            have kr := k3.trans hbl
            have hw9 := h.keep kr
            by_cases hlt : k < m
            · obtain ⟨b, off, rfl, hb, hc⟩ := (hh.keep kr).request (by omega)
              have ⟨h0, h1, h2, h3⟩ := hc k hlt
              clear hc
              have hkt : k < rs.length := by rw [hl2.out]; exact hlt
              have ⟨⟨y0, y1⟩, y2⟩ := HNB.out k hkt
              have HH := Lib.hid (have_has t0 t1 y0 y1 y2 ts)
              cases hp : hasB t ts (requestAt rs k).number
              · have HP := Lib.hid (HH.out.trans hp)
                go_wp2
                refine wp_region_ext (by kernel_rfl) (by kernel_rfl) ?_
                (repeat (go_big_quiet_step (exact Ext.calls (c_l10Have t _ _ _ ts _ t0 t1 y0 y1 HP.out _ hn (hw9.keep (Ext.h _))))))
                (with_reducible refine wpQuiet_nil ?_)
                intro w4 hb4
                go_wp2
                go_roundw
                case rel => exact ⟨k + 1, by omega, by go_num, snoc_lt (p := fun j => hasB t ts (requestAt rs j).number = false) Hst.out hp, hbl.trans hb4⟩
                case measure => simp [intOf]; omega
              · have HP := Lib.hid (HH.out.trans hp)
                have HW := Lib.hid (anyW_yes hkt hp)
                go_wp2
                refine wp_region_ext (by kernel_rfl) (by kernel_rfl) ?_
                (repeat (go_big_quiet_step (exact Ext.calls (c_l10Have t _ _ _ ts _ t0 t1 y0 y1 HP.out _ hn (hw9.keep (Ext.h _))))))
                (with_reducible refine wpQuiet_nil ?_)
                intro w4 hb4
                go_wp2
                go_ret
                exact ⟨ret_bool (by rw [HW.out]; rfl), kr.trans hb4⟩
            · have HW := Lib.hid (anyW_no (t := t) (ts := ts) (rs := rs) (fun j hj => Hst.out j (by rw [hl2.out] at hj; omega)))
              go_wp2
              go_ret
              exact ⟨ret_bool (by rw [HW.out]; rfl), kr⟩
end Go.Proofs.YtpjljbhodnlhmaaGreatDoor
