
/- MissingSerials: both sides. -/
import Derived.Test.YtcemcgcbhmianaaDoorU8
import Derived.Test.YtcemcgcbhmianaaDoorU7
namespace Go.Proofs.YtcemcgcbhmianaaDoor
open Go.RowKit
set_option maxRecDepth 100000 in
theorem c_l10Missing (t : Int) (A : Option Addr) (n c : Nat) (ts : List Slot) (x : Int) (t0 : 0 ≤ t) (t1 : t ≤ 65535) (x0 : 0 ≤ x) (x1 : x ≤ 65535) (g : Nat) (hgp : gapI t x = g) (hg8 : g ≤ 8) (w : World) (hn : n ≤ 9223372036854775807) (h : Rd w A n 2 (ts.map Slot.cells)) :
    Calls Tryd.prog 62 #[.agg #[.int .i64 t, .slice A n c], .int .i64 x] w fun e w' => (∃ A' c', e = .returned (.slice A' (missL t ts g).length c') ∧ Row w' w.heap.size 3 1 icell A' (missL t ts g).length c' (missL t ts g)) ∧ Bw w w' := by
  have hl := Lib.hid h.slotlen
  have hx := (Bw.refl w).alloc (.cells #[.int .i64 t, .slice A n c] 29)
  have ha := hx.alloc (.cells #[] 3)
  have HK := Lib.hid hgp
  clear hgp
  go_enter Tryd.func62, Tryd.ntmps62
  go_wp2
  go_loopw [5, 6] (fun v i wr => ∃ k : Nat, k ≤ g ∧ i = .int .i64 k ∧ (∃ A c, v = .slice A (missL t ts k).length c ∧ Row wr (w.heap.size + 1) 3 1 icell A (missL t ts k).length c (missL t ts k)) ∧ wr.cell? ⟨w.heap.size, 0, none⟩ = some (.int .i64 t) ∧ wr.cell? ⟨w.heap.size, 1, none⟩ = some (.slice A n c) ∧ Bw w wr ∧ w.heap.size < wr.heap.size) (fun _ i _ => g - (intOf i).toNat)
  case atStart =>
    refine ⟨0, Nat.zero_le _, rfl, ⟨_, _, rfl, ?_⟩, by go_simp, by go_simp, ha, by simp; omega⟩
    have := Row.empty (T := Int) (w.alloc (.cells #[.int .i64 t, .slice A n c] 29)) (w.heap.size + 1) 3 1 icell (by simp)
    simp only [World.size_alloc] at this
    exact this
  case round =>
    obtain ⟨k, hk, rfl, ⟨A', c', rfl, hrow⟩, hd0, hd1, hbl, hsr⟩ := hrel
    have hdl : (missL t ts k).length ≤ k := missL_len t ts k
    by_cases hlt : k < g
    · have HA := Lib.hid (hasB_aft (ts := ts) (k := k) t0 t1 (by omega))
      have HN := Lib.hid (missL_no (t := t) (ts := ts) (k := k))
      have HY := Lib.hid (missL_yes (t := t) (ts := ts) (k := k))
      have nown := hrow.notOwnA' (b := w.heap.size) (m := (missL t ts k).length) (d := c') (fun x hx => by have := (hrow.lt x hx).1; omega)
      by_cases hkn : k < n
      · obtain ⟨b, off, rfl, hb, hc⟩ := (h.keep hbl).slots (by omega)
        have q0 := (hc k hkn).1
        clear hc
        have HE := Lib.hid (show hasB t ts (aftI t k) = (slotAt ts k).have_ by rw [HA.out, hl.out]; simp [hkn])
        generalize (slotAt ts k).have_ = a0 at *
        cases a0
        · have HM := Lib.hid (HY.out HE.out)
          generalize missL t ts k = L at hrow hdl nown HM
          go_wp2_with (first | (go_at_call 61; refine (c_l2Gap _ _ HK.out t0 t1 x0 x1 _).mono ?_; rintro e w2 ⟨rfl, rfl⟩) | (go_at_call 56; refine (c_l2After _ _ rfl (by omega) (by omega) (by omega) (by omega) _).mono ?_; rintro e w2 ⟨rfl, rfl⟩) | (at_builtin; refine append_int rfl _ _ rfl _ _ _ _ rfl hrow _ _ rfl rfl ?_ ?_ ?_; omega; omega; intro A2 c2 w2 hrow2 hg2 hmv2))
          go_roundw
          case rel => exact ⟨k + 1, by omega, by go_num, by rw [HM.out]; exact ⟨A2, c2, by simp, by simpa using hrow2⟩, hg2.cell hd0 nown, hg2.cell hd1 nown, Bw.ofRow hbl hg2 (fun x hx => by have := (hrow.lt x hx).1; omega), Nat.lt_of_lt_of_le hsr hg2.size⟩
          case measure => simp [intOf]; omega
        · have HM := Lib.hid (HN.out HE.out)
          generalize missL t ts k = L at hrow hdl nown HM
          go_wp2_with (go_at_call 61; refine (c_l2Gap _ _ HK.out t0 t1 x0 x1 _).mono ?_; rintro e w2 ⟨rfl, rfl⟩)
          go_roundw
          case rel => exact ⟨k + 1, by omega, by go_num, by rw [HM.out]; exact ⟨A', c', rfl, hrow⟩, hd0, hd1, hbl, hsr⟩
          case measure => simp [intOf]; omega
      · have HM := Lib.hid (HY.out (by rw [HA.out, hl.out]; simp [hkn]))
        generalize missL t ts k = L at hrow hdl nown HM
        go_wp2_with (first | (go_at_call 61; refine (c_l2Gap _ _ HK.out t0 t1 x0 x1 _).mono ?_; rintro e w2 ⟨rfl, rfl⟩) | (go_at_call 56; refine (c_l2After _ _ rfl (by omega) (by omega) (by omega) (by omega) _).mono ?_; rintro e w2 ⟨rfl, rfl⟩) | (at_builtin; refine append_int rfl _ _ rfl _ _ _ _ rfl hrow _ _ rfl rfl ?_ ?_ ?_; omega; omega; intro A2 c2 w2 hrow2 hg2 hmv2))
        go_roundw
        case rel => exact ⟨k + 1, by omega, by go_num, by rw [HM.out]; exact ⟨A2, c2, by simp, by simpa using hrow2⟩, hg2.cell hd0 nown, hg2.cell hd1 nown, Bw.ofRow hbl hg2 (fun x hx => by have := (hrow.lt x hx).1; omega), Nat.lt_of_lt_of_le hsr hg2.size⟩
        case measure => simp [intOf]; omega
    · obtain rfl : k = g := by omega
      have rowz : Row wr w.heap.size 3 1 icell A' (missL t ts k).length c' (missL t ts k) := hrow.mono (by omega)
      go_wp2_with (go_at_call 61; refine (c_l2Gap _ _ HK.out t0 t1 x0 x1 _).mono ?_; rintro e w2 ⟨rfl, rfl⟩)
      go_ret
      exact ⟨⟨_, _, rfl, rowz⟩, hbl⟩
set_option maxRecDepth 100000 in
set_option maxHeartbeats 1000000 in
theorem c_missing (t : Int) (A : Option Addr) (n c : Nat) (ts : List Slot) (x : Int) (t0 : 0 ≤ t) (t1 : t ≤ 65535) (x0 : 0 ≤ x) (x1 : x ≤ 65535) (g : Nat) (hgp : gapI t x = g) (hg8 : g ≤ 8) (w : World) (hn : n ≤ 9223372036854775807) (h : Rd w A n 2 (ts.map Slot.cells)) :
    Calls Tryd.prog 64 #[.agg #[.int .i64 t, .slice A n c], .int .i64 x] w fun e w' => (∃ A' c', e = .returned (.slice A' (missL t ts g).length c') ∧ Row w' w.heap.size 3 1 icell A' (missL t ts g).length c' (missL t ts g)) ∧ Bw w w' := by
  have hbx := (Bw.refl w).alloc (.cells #[.int .i64 t, .slice A n c] 29)
  have d0 : (w.alloc (.cells #[.int .i64 t, .slice A n c] 29)).cell? ⟨w.heap.size, 0, none⟩ = some (.int .i64 t) := by go_simp
  have d1 : (w.alloc (.cells #[.int .i64 t, .slice A n c] 29)).cell? ⟨w.heap.size, 1, none⟩ = some (.slice A n c) := by go_simp
  have HK := Lib.hid hgp
  have HB := Lib.hid (heldS_bd t g)
  clear hgp
  go_enter Tryd.func64, Tryd.ntmps64
  go_wp2_with fail
  generalize w.alloc (.cells #[.int .i64 t, .slice A n c] 29) = wA at *
  go_region_held3 (fun W => W.cell? ⟨w.heap.size, 0, none⟩ = some (.int .i64 t) ∧ W.cell? ⟨w.heap.size, 1, none⟩ = some (.slice A n c) ∧ Bw wA W) (first | exact ⟨d0, d1, Bw.drew (Bw.refl _)⟩ | exact ⟨hb3.cellv d0, hb3.cellv d1, hb3⟩ | exact ⟨hb2.cellv d0, hb2.cellv d1, hb2⟩ | assumption) (first | ((go_at_call 63); refine (c_gap _ _ HK.out t0 t1 x0 x1 _).mono ?_; rintro e _ ⟨rfl, rfl⟩) | ((have hS := ‹World.cell? _ _ = _ ∧ World.cell? _ _ = _ ∧ Bw wA _›); (have hbS := hS.2.2); (go_at_call 98); refine (c_span t g t0 t1 (by omega) _).mono ?_; rintro e w2 ⟨⟨A2, c2, rfl, row2⟩, hb20⟩; have hb2 := hbS.trans hb20) | ((go_at_call 97); refine (c_DeleteFuncHas t t0 t1 A n c ts hn A2 g c2 (heldS t g) HB.out w.heap.size _ (by omega) (row2.mono (hbx.trans hbS).size) (h.keep (hbx.trans hb2)) (fun w' hg => h.keep (Bw.ofRow (hbx.trans hb2) hg (fun x hx => Nat.le_trans (hbx.trans hbS).size (row2.lt x hx).1)))).mono ?_; rintro e w3 ⟨rfl, row3, hg3⟩; have hb3 : Bw wA w3 := Bw.ofRow hb2 hg3 (fun x hx => Nat.le_trans hbS.size (row2.lt x hx).1)))
  all_goals
    go_wp2
    go_ret
    exact ⟨⟨_, _, rfl, row3⟩, hbx.trans hb3⟩
def missC (t : Int) (ts : List Slot) (x : Int) : Bool := rwB t ts && (inR x 0 65535 && decide (gapI t x ≤ 8))
def missR (t : Int) (ts : List Slot) (x : Int) : List Int := if missC t ts x = true then missL t ts (gapI t x).toNat else []
theorem missR_len (t : Int) (ts : List Slot) (x : Int) : (missR t ts x).length ≤ 8 := by
  unfold missR
  split
  · rename_i h
    have := missL_len t ts (gapI t x).toNat
    simp [missC] at h
    omega
  · simp
set_option maxRecDepth 100000 in
theorem c_sMissing (t : Int) (A : Option Addr) (n c : Nat) (ts : List Slot) (hf : fitL ts) (x : Int) (w : World) (hn : n ≤ 9223372036854775807) (h : Rd w A n 2 (ts.map Slot.cells)) :
    Calls Tryd.prog 25 #[.agg #[.int .i64 t, .slice A n c], .int .i64 x] w fun e w' => (∃ A' c', e = .returned (.tuple #[.slice A' (missR t ts x).length c', .bool (missC t ts x)]) ∧ Row w' w.heap.size 3 1 icell A' (missR t ts x).length c' (missR t ts x)) ∧ Bw w w' := by
  have hbx : Bw w (w.alloc (.cells #[.int .i64 t, .slice A n c] 29)) := Bw.alloc (Bw.refl _) _
  cases hg : rwB t ts
  · have HR := Lib.hid (show missR t ts x = [] ∧ missC t ts x = false by simp [missR, missC, hg])
    rw [HR.out.1, HR.out.2]
    go_enter Tryd.func25, Tryd.ntmps25
    go_wp2_with (go_at_call 49; refine (c_l10Good t _ _ _ ts hf hg _ hn (h.keep hbx)).mono ?_; rintro e w1 ⟨rfl, hb1⟩)
    go_ret2
    first | exact ⟨⟨_, _, rfl, Row.nil _ _ _ _ _⟩, hbx.trans hb1⟩ | exact ⟨⟨_, _, rfl, Row.empty w1 _ _ _ _ (hbx.trans hb1).size⟩, (hbx.trans hb1).alloc _⟩
  · obtain ⟨g1, g2, g3, g4⟩ := rwB_iff.1 hg
    have ⟨t0, t1⟩ := inR_iff.1 g1
    have Hg := Lib.hid hg
    clear g1 g2 g3 g4
    cases hx : inR x 0 65535
    · have HR := Lib.hid (show missR t ts x = [] ∧ missC t ts x = false by simp [missR, missC, hx])
      clear hg
      rw [HR.out.1, HR.out.2]
      go_enter Tryd.func25, Tryd.ntmps25
      go_wp2_with (first | (go_at_call 49; refine (c_l10Good t _ _ _ ts hf Hg.out _ hn (h.keep hbx)).mono ?_; rintro e w1 ⟨rfl, hb1⟩) | (go_at_call 58; refine (c_l2Good _ hx _).mono ?_; rintro e w2 ⟨rfl, rfl⟩))
      go_ret2
      first | exact ⟨⟨_, _, rfl, Row.nil _ _ _ _ _⟩, hbx.trans hb1⟩ | exact ⟨⟨_, _, rfl, Row.empty w1 _ _ _ _ (hbx.trans hb1).size⟩, (hbx.trans hb1).alloc _⟩
    · have ⟨x0, x1⟩ := inR_iff.1 hx
      obtain ⟨g, hk⟩ := Int.eq_ofNat_of_zero_le (gapI_bd t x).1
      have HK := Lib.hid hk
      have hgb : (g : Int) ≤ 65535 := by rw [← hk]; exact (gapI_bd t x).2
      by_cases h8 : g ≤ 8
      · have HR := Lib.hid (show missR t ts x = missL t ts g ∧ missC t ts x = true by
          have : gapI t x ≤ 8 := by rw [hk]; omega
          have e1 : missC t ts x = true := by simp [missC, hx, hg, this]
          exact ⟨by rw [missR, if_pos e1, hk]; rfl, e1⟩)
        clear hg hk
        rw [HR.out.1, HR.out.2]
        go_enter Tryd.func25, Tryd.ntmps25
        go_wp2_with (first | (go_at_call 49; refine (c_l10Good t _ _ _ ts hf Hg.out _ hn (h.keep hbx)).mono ?_; rintro e w1 ⟨rfl, hb1⟩; have d0 := hb1.cellv (p := ⟨w.heap.size, 0, none⟩) (v := .int .i64 t) (by go_simp); have d1 := hb1.cellv (p := ⟨w.heap.size, 1, none⟩) (v := .slice A n c) (by go_simp)) | (go_at_call 58; refine (c_l2Good _ hx _).mono ?_; rintro e w2 ⟨rfl, rfl⟩) | (go_at_call 61; refine (c_l2Gap _ _ HK.out t0 t1 x0 x1 _).mono ?_; rintro e w2 ⟨rfl, rfl⟩))
        refine (c_l10Missing t _ _ _ ts x t0 t1 x0 x1 g HK.out h8 _ hn (h.keep (hbx.trans hb1))).mono ?_
        rintro e w3 ⟨⟨A3, c3, rfl, row3⟩, hb3⟩
        go_wp2_with fail
        go_ret2
        exact ⟨⟨_, _, rfl, row3.mono (hbx.trans hb1).size⟩, (hbx.trans hb1).trans hb3⟩
      · have HR := Lib.hid (show missR t ts x = [] ∧ missC t ts x = false by
          have : ¬ gapI t x ≤ 8 := by rw [hk]; omega
          simp [missR, missC, this])
        clear hg hk
        rw [HR.out.1, HR.out.2]
        go_enter Tryd.func25, Tryd.ntmps25
        go_wp2_with (first | (go_at_call 49; refine (c_l10Good t _ _ _ ts hf Hg.out _ hn (h.keep hbx)).mono ?_; rintro e w1 ⟨rfl, hb1⟩; have d0 := hb1.cellv (p := ⟨w.heap.size, 0, none⟩) (v := .int .i64 t) (by go_simp)) | (go_at_call 58; refine (c_l2Good _ hx _).mono ?_; rintro e w2 ⟨rfl, rfl⟩) | (go_at_call 61; refine (c_l2Gap _ _ HK.out t0 t1 x0 x1 _).mono ?_; rintro e w2 ⟨rfl, rfl⟩))
        go_ret2
        first | exact ⟨⟨_, _, rfl, Row.nil _ _ _ _ _⟩, hbx.trans hb1⟩ | exact ⟨⟨_, _, rfl, Row.empty w1 _ _ _ _ (hbx.trans hb1).size⟩, (hbx.trans hb1).alloc _⟩
set_option maxRecDepth 100000 in
theorem c_iMissing (t : Int) (A : Option Addr) (n c : Nat) (ts : List Slot) (hf : fitL ts) (x : Int) (w : World) (hn : n ≤ 9223372036854775807) (h : Rd w A n 2 (ts.map Slot.cells)) :
    Calls Tryd.prog 26 #[.agg #[.int .i64 t, .slice A n c], .int .i64 x] w fun e w' => (∃ A' c', e = .returned (.tuple #[.slice A' (missR t ts x).length c', .bool (missC t ts x)]) ∧ Row w' w.heap.size 3 1 icell A' (missR t ts x).length c' (missR t ts x)) ∧ Bw w w' := by
  have hbx : Bw w (w.alloc (.cells #[.int .i64 t, .slice A n c] 29)) := Bw.alloc (Bw.refl _) _
  cases hg : rwB t ts
  · have HR := Lib.hid (show missR t ts x = [] ∧ missC t ts x = false by simp [missR, missC, hg])
    rw [HR.out.1, HR.out.2]
    go_enter Tryd.func26, Tryd.ntmps26
    go_wp2_with (go_at_call 17; refine (c_IsValidReceiveWindow t _ _ _ ts hf hg _ hn (h.keep hbx)).mono ?_; rintro e w1 ⟨rfl, hb1⟩)
    go_ret2
    first | exact ⟨⟨_, _, rfl, Row.nil _ _ _ _ _⟩, hbx.trans hb1⟩ | exact ⟨⟨_, _, rfl, Row.empty w1 _ _ _ _ (hbx.trans hb1).size⟩, (hbx.trans hb1).alloc _⟩
  · obtain ⟨g1, g2, g3, g4⟩ := rwB_iff.1 hg
    have ⟨t0, t1⟩ := inR_iff.1 g1
    have Hg := Lib.hid hg
    clear g1 g2 g3 g4
    cases hx : inR x 0 65535
    · have HR := Lib.hid (show missR t ts x = [] ∧ missC t ts x = false by simp [missR, missC, hx])
      clear hg
      rw [HR.out.1, HR.out.2]
      go_enter Tryd.func26, Tryd.ntmps26
      go_wp2_with (first | (go_at_call 17; refine (c_IsValidReceiveWindow t _ _ _ ts hf Hg.out _ hn (h.keep hbx)).mono ?_; rintro e w1 ⟨rfl, hb1⟩) | (go_at_call 51; refine (c_IsSerial _ hx _).mono ?_; rintro e w2 ⟨rfl, rfl⟩))
      go_ret2
      first | exact ⟨⟨_, _, rfl, Row.nil _ _ _ _ _⟩, hbx.trans hb1⟩ | exact ⟨⟨_, _, rfl, Row.empty w1 _ _ _ _ (hbx.trans hb1).size⟩, (hbx.trans hb1).alloc _⟩
    · have ⟨x0, x1⟩ := inR_iff.1 hx
      obtain ⟨g, hk⟩ := Int.eq_ofNat_of_zero_le (gapI_bd t x).1
      have HK := Lib.hid hk
      have hgb : (g : Int) ≤ 65535 := by rw [← hk]; exact (gapI_bd t x).2
      by_cases h8 : g ≤ 8
      · have HR := Lib.hid (show missR t ts x = missL t ts g ∧ missC t ts x = true by
          have : gapI t x ≤ 8 := by rw [hk]; omega
          have e1 : missC t ts x = true := by simp [missC, hx, hg, this]
          exact ⟨by rw [missR, if_pos e1, hk]; rfl, e1⟩)
        clear hg hk
        rw [HR.out.1, HR.out.2]
        go_enter Tryd.func26, Tryd.ntmps26
        go_wp2_with (first | (go_at_call 17; refine (c_IsValidReceiveWindow t _ _ _ ts hf Hg.out _ hn (h.keep hbx)).mono ?_; rintro e w1 ⟨rfl, hb1⟩; have d0 := hb1.cellv (p := ⟨w.heap.size, 0, none⟩) (v := .int .i64 t) (by go_simp); have d1 := hb1.cellv (p := ⟨w.heap.size, 1, none⟩) (v := .slice A n c) (by go_simp)) | (go_at_call 51; refine (c_IsSerial _ hx _).mono ?_; rintro e w2 ⟨rfl, rfl⟩) | (go_at_call 63; refine (c_gap _ _ HK.out t0 t1 x0 x1 _).mono ?_; rintro e w2 ⟨rfl, rfl⟩))
        refine (c_missing t _ _ _ ts x t0 t1 x0 x1 g HK.out h8 _ hn (h.keep (hbx.trans hb1))).mono ?_
        rintro e w3 ⟨⟨A3, c3, rfl, row3⟩, hb3⟩
        go_wp2_with fail
        go_ret2
        exact ⟨⟨_, _, rfl, row3.mono (hbx.trans hb1).size⟩, (hbx.trans hb1).trans hb3⟩
      · have HR := Lib.hid (show missR t ts x = [] ∧ missC t ts x = false by
          have : ¬ gapI t x ≤ 8 := by rw [hk]; omega
          simp [missR, missC, this])
        clear hg hk
        rw [HR.out.1, HR.out.2]
        go_enter Tryd.func26, Tryd.ntmps26
        go_wp2_with (first | (go_at_call 17; refine (c_IsValidReceiveWindow t _ _ _ ts hf Hg.out _ hn (h.keep hbx)).mono ?_; rintro e w1 ⟨rfl, hb1⟩; have d0 := hb1.cellv (p := ⟨w.heap.size, 0, none⟩) (v := .int .i64 t) (by go_simp)) | (go_at_call 51; refine (c_IsSerial _ hx _).mono ?_; rintro e w2 ⟨rfl, rfl⟩) | (go_at_call 63; refine (c_gap _ _ HK.out t0 t1 x0 x1 _).mono ?_; rintro e w2 ⟨rfl, rfl⟩))
        go_ret2
        first | exact ⟨⟨_, _, rfl, Row.nil _ _ _ _ _⟩, hbx.trans hb1⟩ | exact ⟨⟨_, _, rfl, Row.empty w1 _ _ _ _ (hbx.trans hb1).size⟩, (hbx.trans hb1).alloc _⟩
end Go.Proofs.YtcemcgcbhmianaaDoor
