
/- Sources: the two tests of one. -/
import Derived.Test.YtpjljbhodnlhmaaGreatDoorS5
import Derived.Test.YtpjljbhodnlhmaaGreatDoorF
namespace Go.Proofs.YtpjljbhodnlhmaaGreatDoor
open Go.RowKit
def holdOk (t : Int) (n : Nat) (ck : Int) (h : Hold) : Bool := inR h.number 0 65535 && (heldB t n h.number && inR h.til (ck + 1) (ck + 3))
def stepH (t : Int) (n : Nat) (ck : Int) (hs : List Hold) (k : Nat) : Bool := holdOk t n ck (holdAt hs k) && (k == 0 || decide (gapI t (holdAt hs (k - 1)).number < gapI t (holdAt hs k).number))
def srcB (t z : Int) (ss : List ByteArray) (ck q : Int) (hs : List Hold) : Bool := swB t z ss && (inR ck 0 9999 && (inR q 0 3 && allB (stepH t ss.length ck hs) hs.length))
theorem srcB_iff {t z : Int} {ss : List ByteArray} {ck q : Int} {hs : List Hold} : srcB t z ss ck q hs = true ↔ swB t z ss = true ∧ inR ck 0 9999 = true ∧ inR q 0 3 = true ∧ ∀ j, j < hs.length → stepH t ss.length ck hs j = true := by
  constructor
  · intro h
    simp only [srcB, Bool.and_eq_true] at h
    exact ⟨h.1, h.2.1, h.2.2.1, allB_elim h.2.2.2⟩
  · rintro ⟨h1, h2, h3, h4⟩; simp [srcB, h1, h2, h3, allB_true h4]
set_option maxRecDepth 100000 in
set_option maxHeartbeats 2000000 in
theorem c_IsValidSource (t z : Int) (A : Option Addr) (n c : Nat) (ss : List ByteArray) (hf : fitS ss) (ck q : Int) (B : Option Addr) (m d : Nat) (hs : List Hold) {r : Bool} (hr : srcB t z ss ck q hs = r) (w : World) (hn : n ≤ 9223372036854775807) (hm : m ≤ 9223372036854775807) (h : Rd w A n 1 (ss.map scell)) (hh : Rd w B m 2 (hs.map Hold.cells)) :
    Calls Tryz.prog 50 #[.agg #[.int .i64 t, .int .i64 z, .slice A n c, .int .i64 ck, .int .i64 q, .slice B m d]] w fun e w' => e = .returned (.bool r) ∧ Bw w w' := by
  subst hr
  have hl := Lib.hid h.slen
  have hl2 := Lib.hid hh.holdlen
  have hbx : Bw w (w.alloc (.cells #[.int .i64 t, .int .i64 z, .slice A n c, .int .i64 ck, .int .i64 q, .slice B m d] 32)) := Bw.alloc (Bw.refl _) _
  cases hg : swB t z ss
  · go_enter Tryz.func50, Tryz.ntmps50
    go_wp2_with (go_at_call 84; refine (c_IsValidSendWindow t z _ _ _ ss hf hg _ hn (h.keep hbx)).mono ?_; rintro e w1 ⟨rfl, hb1⟩)
    go_ret
    exact ⟨ret_bool (by simp [srcB, hg]), hbx.trans hb1⟩
  · obtain ⟨g1, g2, g3, g4⟩ := swB_iff.1 hg
    have ⟨t0, t1⟩ := inR_iff.1 g1
    have ⟨z0, z1⟩ := inR_iff.1 g2
    have hn6 : n ≤ 6 := by have := hl.out; omega
    have Hg := Lib.hid hg
    clear g1 g2 g3 g4 hg
    cases hk : inR ck 0 9999
    · go_enter Tryz.func50, Tryz.ntmps50
      go_wp2_with (first | (go_at_call 84; refine (c_IsValidSendWindow t z _ _ _ ss hf Hg.out _ hn (h.keep hbx)).mono ?_; rintro e w1 ⟨rfl, hb1⟩; have d3 := hb1.cellv (p := ⟨w.heap.size, 3, none⟩) (v := .int .i64 ck) (by go_simp); have d4 := hb1.cellv (p := ⟨w.heap.size, 4, none⟩) (v := .int .i64 q) (by go_simp)) | (go_at_call 85; refine (c_isClock _ hk _).mono ?_; rintro e w2 ⟨rfl, rfl⟩))
      go_ret
      exact ⟨ret_bool (by simp [srcB, hk]), hbx.trans hb1⟩
    · have ⟨c0, c1⟩ := inR_iff.1 hk
      cases hq : inR q 0 3
      · go_enter Tryz.func50, Tryz.ntmps50
        go_wp2_with (first | (go_at_call 84; refine (c_IsValidSendWindow t z _ _ _ ss hf Hg.out _ hn (h.keep hbx)).mono ?_; rintro e w1 ⟨rfl, hb1⟩; have d3 := hb1.cellv (p := ⟨w.heap.size, 3, none⟩) (v := .int .i64 ck) (by go_simp); have d4 := hb1.cellv (p := ⟨w.heap.size, 4, none⟩) (v := .int .i64 q) (by go_simp)) | (go_at_call 85; refine (c_isClock _ hk _).mono ?_; rintro e w2 ⟨rfl, rfl⟩) | (go_at_call 54; refine (c_within _ _ _ hq _).mono ?_; rintro e w3 ⟨rfl, rfl⟩))
        go_ret
        exact ⟨ret_bool (by simp [srcB, hq]), hbx.trans hb1⟩
      · have HE := Lib.hid (show srcB t z ss ck q hs = allB (stepH t n ck hs) hs.length by simp [srcB, Hg.out, hk, hq, hl.out])
        go_enter Tryz.func50, Tryz.ntmps50
        go_wp2_with (first | (go_at_call 84; refine (c_IsValidSendWindow t z _ _ _ ss hf Hg.out _ hn (h.keep hbx)).mono ?_; rintro e w1 ⟨rfl, hb1⟩; have d0 := hb1.cellv (p := ⟨w.heap.size, 0, none⟩) (v := .int .i64 t) (by go_simp); have d1 := hb1.cellv (p := ⟨w.heap.size, 1, none⟩) (v := .int .i64 z) (by go_simp); have d2 := hb1.cellv (p := ⟨w.heap.size, 2, none⟩) (v := .slice A n c) (by go_simp); have d3 := hb1.cellv (p := ⟨w.heap.size, 3, none⟩) (v := .int .i64 ck) (by go_simp); have d4 := hb1.cellv (p := ⟨w.heap.size, 4, none⟩) (v := .int .i64 q) (by go_simp); have d5 := hb1.cellv (p := ⟨w.heap.size, 5, none⟩) (v := .slice B m d) (by go_simp)) | (go_at_call 85; refine (c_isClock _ hk _).mono ?_; rintro e w2 ⟨rfl, rfl⟩) | (go_at_call 54; refine (c_within _ _ _ hq _).mono ?_; rintro e w3 ⟨rfl, rfl⟩))
        have k1 : Bw w w1 := hbx.trans hb1
        go_loopw [24] (fun i wr => ∃ k : Nat, k ≤ m ∧ i = .int .i64 k ∧ (∀ j, j < k → stepH t n ck hs j = true) ∧ Bw w1 wr) (fun i _ => m - (intOf i).toNat)
        case atStart => exact ⟨0, Nat.zero_le _, rfl, fun j hj => absurd hj (by omega), Bw.refl _⟩
        case round =>
          obtain ⟨k, hkm, rfl, hst, hbl⟩ := hrel
          have Hst := Lib.hid hst
          clear hst
          replace d0 := hbl.cellv d0
          replace d1 := hbl.cellv d1
          replace d2 := hbl.cellv d2
          replace d3 := hbl.cellv d3
          replace d4 := hbl.cellv d4
          replace d5 := hbl.cellv d5
          have ld := World.block_lt_of_cell? wr _ d0
          by_cases hlt : k < m
          · obtain ⟨b, off, rfl, hb, hc⟩ := (hh.keep (k1.trans hbl)).hold (by omega)
            have ⟨h0, h1⟩ := hc k hlt
            have fail : stepH t n ck hs k = false → srcB t z ss ck q hs = false := fun hx => by rw [HE.out, allB_false (by rw [hl2.out]; exact hlt) hx]
            have Hf := Lib.hid fail
            clear fail
            have HO := Lib.hid (show stepH t n ck hs k = (holdOk t n ck (holdAt hs k) && (k == 0 || decide (gapI t (holdAt hs (k - 1)).number < gapI t (holdAt hs k).number))) from rfl)
            have HK := Lib.hid (show holdOk t n ck (holdAt hs k) = (inR (holdAt hs k).number 0 65535 && (heldB t n (holdAt hs k).number && inR (holdAt hs k).til (ck + 1) (ck + 3))) from rfl)
            cases hS : inR (holdAt hs k).number 0 65535
            · clear hc
              go_wp2_with (go_at_call 86; refine (c_IsSerial _ hS _).mono ?_; rintro e w2 ⟨rfl, rfl⟩)
              go_ret
              exact ⟨ret_bool (Hf.out (by rw [HO.out, HK.out, hS]; rfl)).symm, (k1.trans hbl).alloc _⟩
            · have ⟨x0, x1⟩ := inR_iff.1 hS
              cases hH : heldB t n (holdAt hs k).number
              · clear hc
                go_wp2_with (first | (go_at_call 86; refine (c_IsSerial _ hS _).mono ?_; rintro e w2 ⟨rfl, rfl⟩) | (go_at_call 87; refine (c_isHeld t z _ _ _ _ hH t0 t1 x0 x1 hn _).mono ?_; rintro e w2 ⟨rfl, hb2⟩))
                go_ret
                exact ⟨ret_bool (Hf.out (by rw [HO.out, HK.out, hS, hH]; rfl)).symm, ((k1.trans hbl).alloc _).trans hb2⟩
              · cases hT : inR (holdAt hs k).til (ck + 1) (ck + 3)
                · clear hc
                  go_wp2_with (first | (go_at_call 86; refine (c_IsSerial _ hS _).mono ?_; rintro e w2 ⟨rfl, rfl⟩) | (go_at_call 87; refine (c_isHeld t z _ _ _ _ hH t0 t1 x0 x1 hn _).mono ?_; rintro e w2 ⟨rfl, hb2⟩; have hbx2 := (Bw.alloc (Bw.refl wr) _).trans hb2; have e3 := hbx2.cellv d3; have q0 := hb2.cellv (p := ⟨wr.heap.size, 0, none⟩) (v := .int .i64 (holdAt hs k).number) (by go_simp); have q1 := hb2.cellv (p := ⟨wr.heap.size, 1, none⟩) (v := .int .i64 (holdAt hs k).til) (by go_simp)) | (go_at_call 54; refine (c_within _ _ _ hT _).mono ?_; rintro e w3 ⟨rfl, rfl⟩))
                  go_ret
                  exact ⟨ret_bool (Hf.out (by rw [HO.out, HK.out, hS, hH, hT]; rfl)).symm, ((k1.trans hbl).alloc _).trans hb2⟩
                · by_cases hk0 : 0 < k
                  · have ⟨p0, _⟩ := hc (k - 1) (by omega)
                    have e1 : ((k : Int) - 1).toNat = k - 1 := by omega
                    have dk0 : decide ((0 : Int) < (k : Int)) = true := by simpa using hk0
                    have hpo := Hst.out (k - 1) (by omega)
                    simp only [stepH, holdOk, Bool.and_eq_true] at hpo
                    have ⟨y0, y1⟩ := inR_iff.1 hpo.1.1
                    clear hc hpo
                    cases hss : decide (gapI t (holdAt hs k).number ≤ gapI t (holdAt hs (k - 1)).number)
                    all_goals
                      go_wp2_with (first | (go_at_call 86; refine (c_IsSerial _ hS _).mono ?_; rintro e w2 ⟨rfl, rfl⟩) | (go_at_call 87; refine (c_isHeld t z _ _ _ _ hH t0 t1 x0 x1 hn _).mono ?_; rintro e w2 ⟨rfl, hb2⟩; have hbx2 := (Bw.alloc (Bw.refl wr) _).trans hb2; have e0 := hbx2.cellv d0; have e3 := hbx2.cellv d3; have e5 := hbx2.cellv d5; have q0 := hb2.cellv (p := ⟨wr.heap.size, 0, none⟩) (v := .int .i64 (holdAt hs k).number) (by go_simp); have q1 := hb2.cellv (p := ⟨wr.heap.size, 1, none⟩) (v := .int .i64 (holdAt hs k).til) (by go_simp); have p02 := hbx2.cellv p0; have lt0 := World.block_lt_of_cell? w2 _ e0; have lt1 := World.block_lt_of_cell? w2 _ q0; have lt2 := World.block_lt_of_cell? w2 _ p02; clear d0 d1 d2 d3 d4 d5 p0 h0 h1) | (go_at_call 54; refine (c_within _ _ _ hT _).mono ?_; rintro e w3 ⟨rfl, rfl⟩))
                      refine wp_region_ext (by kernel_rfl) (by kernel_rfl) ?_
                      (repeat (go_big_quiet_step (with_reducible exact Ext.same (c_gap _ _ rfl (by omega) (by omega) (by omega) (by omega) _))))
                      (with_reducible refine wpQuiet_nil ?_)
                      intro w4 hb4
                    · have hs' := of_decide_eq_false hss
                      go_wp2
                      go_roundw
                      case rel => exact ⟨k + 1, by omega, by go_num, snoc_lt Hst.out (by rw [HO.out, HK.out, hS, hH, hT]; simp; omega), ((hbl.alloc _).trans hb2).trans hb4⟩
                      case measure => simp [intOf]; omega
                    · have hs' := of_decide_eq_true hss
                      go_wp2
                      go_ret
                      exact ⟨ret_bool (Hf.out (by rw [HO.out, HK.out, hS, hH, hT]; simp; omega)).symm, (((k1.trans hbl).alloc _).trans hb2).trans hb4⟩
                  · have dk0 : decide ((0 : Int) < (k : Int)) = false := by simpa using hk0
                    clear hc
                    go_wp2_with (first | (go_at_call 86; refine (c_IsSerial _ hS _).mono ?_; rintro e w2 ⟨rfl, rfl⟩) | (go_at_call 87; refine (c_isHeld t z _ _ _ _ hH t0 t1 x0 x1 hn _).mono ?_; rintro e w2 ⟨rfl, hb2⟩; have hbx2 := (Bw.alloc (Bw.refl wr) _).trans hb2; have e3 := hbx2.cellv d3; have q0 := hb2.cellv (p := ⟨wr.heap.size, 0, none⟩) (v := .int .i64 (holdAt hs k).number) (by go_simp); have q1 := hb2.cellv (p := ⟨wr.heap.size, 1, none⟩) (v := .int .i64 (holdAt hs k).til) (by go_simp); clear d0 d1 d2 d3 d4 d5) | (go_at_call 54; refine (c_within _ _ _ hT _).mono ?_; rintro e w3 ⟨rfl, rfl⟩))
                    refine wp_region_ext (by kernel_rfl) (by kernel_rfl) ?_
                    (repeat (go_big_quiet_step (with_reducible exact Ext.same (c_gap _ _ rfl (by omega) (by omega) (by omega) (by omega) _))))
                    (with_reducible refine wpQuiet_nil ?_)
                    intro w4 hb4
                    go_wp2
                    go_roundw
                    case rel => exact ⟨k + 1, by omega, by go_num, snoc_lt Hst.out (by rw [HO.out, HK.out, hS, hH, hT]; simp; omega), ((hbl.alloc _).trans hb2).trans hb4⟩
                    case measure => simp [intOf]; omega
          · go_wp2
            go_ret
            exact ⟨ret_bool (by rw [HE.out, allB_true (fun j hj => Hst.out j (by rw [hl2.out] at hj; omega))]), k1.trans hbl⟩
set_option maxRecDepth 100000 in
set_option maxHeartbeats 2000000 in
theorem c_l11Good (t z : Int) (A : Option Addr) (n c : Nat) (ss : List ByteArray) (hf : fitS ss) (ck q : Int) (B : Option Addr) (m d : Nat) (hs : List Hold) {r : Bool} (hr : srcB t z ss ck q hs = r) (w : World) (hn : n ≤ 9223372036854775807) (hm : m ≤ 9223372036854775807) (h : Rd w A n 1 (ss.map scell)) (hh : Rd w B m 2 (hs.map Hold.cells)) :
    Calls Tryz.prog 52 #[.agg #[.int .i64 t, .int .i64 z, .slice A n c, .int .i64 ck, .int .i64 q, .slice B m d]] w fun e w' => e = .returned (.bool r) ∧ Bw w w' := by
  subst hr
  have hl := Lib.hid h.slen
  have hl2 := Lib.hid hh.holdlen
  have hbx : Bw w (w.alloc (.cells #[.int .i64 t, .int .i64 z, .slice A n c, .int .i64 ck, .int .i64 q, .slice B m d] 32)) := Bw.alloc (Bw.refl _) _
  cases hg : swB t z ss
  · go_enter Tryz.func52, Tryz.ntmps52
    go_wp2_with (go_at_call 97; refine (c_l9Good t z _ _ _ ss hf hg _ hn (h.keep hbx)).mono ?_; rintro e w1 ⟨rfl, hb1⟩)
    go_ret
    exact ⟨ret_bool (by simp [srcB, hg]), hbx.trans hb1⟩
  · obtain ⟨g1, g2, g3, g4⟩ := swB_iff.1 hg
    have ⟨t0, t1⟩ := inR_iff.1 g1
    have ⟨z0, z1⟩ := inR_iff.1 g2
    have hn6 : n ≤ 6 := by have := hl.out; omega
    have Hg := Lib.hid hg
    clear g1 g2 g3 g4 hg
    cases hk : inR ck 0 9999
    · go_enter Tryz.func52, Tryz.ntmps52
      go_wp2_with (first | (go_at_call 97; refine (c_l9Good t z _ _ _ ss hf Hg.out _ hn (h.keep hbx)).mono ?_; rintro e w1 ⟨rfl, hb1⟩; have d3 := hb1.cellv (p := ⟨w.heap.size, 3, none⟩) (v := .int .i64 ck) (by go_simp); have d4 := hb1.cellv (p := ⟨w.heap.size, 4, none⟩) (v := .int .i64 q) (by go_simp)) | (go_at_call 98; refine (c_l11Clock _ hk _).mono ?_; rintro e w2 ⟨rfl, rfl⟩))
      go_ret
      exact ⟨ret_bool (by simp [srcB, hk]), hbx.trans hb1⟩
    · have ⟨c0, c1⟩ := inR_iff.1 hk
      cases hq : inR q 0 3
      · go_enter Tryz.func52, Tryz.ntmps52
        go_wp2_with (first | (go_at_call 97; refine (c_l9Good t z _ _ _ ss hf Hg.out _ hn (h.keep hbx)).mono ?_; rintro e w1 ⟨rfl, hb1⟩; have d3 := hb1.cellv (p := ⟨w.heap.size, 3, none⟩) (v := .int .i64 ck) (by go_simp); have d4 := hb1.cellv (p := ⟨w.heap.size, 4, none⟩) (v := .int .i64 q) (by go_simp)) | (go_at_call 98; refine (c_l11Clock _ hk _).mono ?_; rintro e w2 ⟨rfl, rfl⟩) | (go_at_call 53; refine (c_l1In _ _ _ hq _).mono ?_; rintro e w3 ⟨rfl, rfl⟩))
        go_ret
        exact ⟨ret_bool (by simp [srcB, hq]), hbx.trans hb1⟩
      · have HE := Lib.hid (show srcB t z ss ck q hs = allB (stepH t n ck hs) hs.length by simp [srcB, Hg.out, hk, hq, hl.out])
        go_enter Tryz.func52, Tryz.ntmps52
        go_wp2_with (first | (go_at_call 97; refine (c_l9Good t z _ _ _ ss hf Hg.out _ hn (h.keep hbx)).mono ?_; rintro e w1 ⟨rfl, hb1⟩; have d0 := hb1.cellv (p := ⟨w.heap.size, 0, none⟩) (v := .int .i64 t) (by go_simp); have d1 := hb1.cellv (p := ⟨w.heap.size, 1, none⟩) (v := .int .i64 z) (by go_simp); have d2 := hb1.cellv (p := ⟨w.heap.size, 2, none⟩) (v := .slice A n c) (by go_simp); have d3 := hb1.cellv (p := ⟨w.heap.size, 3, none⟩) (v := .int .i64 ck) (by go_simp); have d4 := hb1.cellv (p := ⟨w.heap.size, 4, none⟩) (v := .int .i64 q) (by go_simp); have d5 := hb1.cellv (p := ⟨w.heap.size, 5, none⟩) (v := .slice B m d) (by go_simp)) | (go_at_call 98; refine (c_l11Clock _ hk _).mono ?_; rintro e w2 ⟨rfl, rfl⟩) | (go_at_call 53; refine (c_l1In _ _ _ hq _).mono ?_; rintro e w3 ⟨rfl, rfl⟩))
        have k1 : Bw w w1 := hbx.trans hb1
        go_loopw [3] (fun i wr => ∃ k : Nat, k ≤ m ∧ i = .int .i64 k ∧ (∀ j, j < k → stepH t n ck hs j = true) ∧ Bw w1 wr) (fun i _ => m - (intOf i).toNat)
        case atStart => exact ⟨0, Nat.zero_le _, rfl, fun j hj => absurd hj (by omega), Bw.refl _⟩
        case round =>
          obtain ⟨k, hkm, rfl, hst, hbl⟩ := hrel
          have Hst := Lib.hid hst
          clear hst
          replace d0 := hbl.cellv d0
          replace d1 := hbl.cellv d1
          replace d2 := hbl.cellv d2
          replace d3 := hbl.cellv d3
          replace d4 := hbl.cellv d4
          replace d5 := hbl.cellv d5
          have ld := World.block_lt_of_cell? wr _ d0
          by_cases hlt : k < m
          · obtain ⟨b, off, rfl, hb, hc⟩ := (hh.keep (k1.trans hbl)).hold (by omega)
            have ⟨h0, h1⟩ := hc k hlt
            have fail : stepH t n ck hs k = false → srcB t z ss ck q hs = false := fun hx => by rw [HE.out, allB_false (by rw [hl2.out]; exact hlt) hx]
            have Hf := Lib.hid fail
            clear fail
            have HO := Lib.hid (show stepH t n ck hs k = (holdOk t n ck (holdAt hs k) && (k == 0 || decide (gapI t (holdAt hs (k - 1)).number < gapI t (holdAt hs k).number))) from rfl)
            have HK := Lib.hid (show holdOk t n ck (holdAt hs k) = (inR (holdAt hs k).number 0 65535 && (heldB t n (holdAt hs k).number && inR (holdAt hs k).til (ck + 1) (ck + 3))) from rfl)
            cases hS : inR (holdAt hs k).number 0 65535
            · clear hc
              go_wp2_with (go_at_call 99; refine (c_l2Good _ hS _).mono ?_; rintro e w2 ⟨rfl, rfl⟩)
              go_ret
              exact ⟨ret_bool (Hf.out (by rw [HO.out, HK.out, hS]; rfl)).symm, (k1.trans hbl).alloc _⟩
            · have ⟨x0, x1⟩ := inR_iff.1 hS
              cases hH : heldB t n (holdAt hs k).number
              · clear hc
                go_wp2_with (first | (go_at_call 99; refine (c_l2Good _ hS _).mono ?_; rintro e w2 ⟨rfl, rfl⟩) | (go_at_call 100; refine (c_l9Held t z _ _ _ _ hH t0 t1 x0 x1 hn _).mono ?_; rintro e w2 ⟨rfl, hb2⟩))
                go_ret
                exact ⟨ret_bool (Hf.out (by rw [HO.out, HK.out, hS, hH]; rfl)).symm, ((k1.trans hbl).alloc _).trans hb2⟩
              · cases hT : inR (holdAt hs k).til (ck + 1) (ck + 3)
                · clear hc
                  go_wp2_with (first | (go_at_call 99; refine (c_l2Good _ hS _).mono ?_; rintro e w2 ⟨rfl, rfl⟩) | (go_at_call 100; refine (c_l9Held t z _ _ _ _ hH t0 t1 x0 x1 hn _).mono ?_; rintro e w2 ⟨rfl, hb2⟩; have hbx2 := (Bw.alloc (Bw.refl wr) _).trans hb2; have e3 := hbx2.cellv d3; have q0 := hb2.cellv (p := ⟨wr.heap.size, 0, none⟩) (v := .int .i64 (holdAt hs k).number) (by go_simp); have q1 := hb2.cellv (p := ⟨wr.heap.size, 1, none⟩) (v := .int .i64 (holdAt hs k).til) (by go_simp)) | (go_at_call 53; refine (c_l1In _ _ _ hT _).mono ?_; rintro e w3 ⟨rfl, rfl⟩))
                  go_ret
                  exact ⟨ret_bool (Hf.out (by rw [HO.out, HK.out, hS, hH, hT]; rfl)).symm, ((k1.trans hbl).alloc _).trans hb2⟩
                · by_cases hk0 : 0 < k
                  · have ⟨p0, _⟩ := hc (k - 1) (by omega)
                    have e1 : ((k : Int) - 1).toNat = k - 1 := by omega
                    have dk0 : decide ((0 : Int) < (k : Int)) = true := by simpa using hk0
                    have hpo := Hst.out (k - 1) (by omega)
                    simp only [stepH, holdOk, Bool.and_eq_true] at hpo
                    have ⟨y0, y1⟩ := inR_iff.1 hpo.1.1
                    clear hc hpo
                    cases hss : decide (gapI t (holdAt hs k).number ≤ gapI t (holdAt hs (k - 1)).number)
                    all_goals
                      go_wp2_with (first | (go_at_call 99; refine (c_l2Good _ hS _).mono ?_; rintro e w2 ⟨rfl, rfl⟩) | (go_at_call 100; refine (c_l9Held t z _ _ _ _ hH t0 t1 x0 x1 hn _).mono ?_; rintro e w2 ⟨rfl, hb2⟩; have hbx2 := (Bw.alloc (Bw.refl wr) _).trans hb2; have e0 := hbx2.cellv d0; have e3 := hbx2.cellv d3; have e5 := hbx2.cellv d5; have q0 := hb2.cellv (p := ⟨wr.heap.size, 0, none⟩) (v := .int .i64 (holdAt hs k).number) (by go_simp); have q1 := hb2.cellv (p := ⟨wr.heap.size, 1, none⟩) (v := .int .i64 (holdAt hs k).til) (by go_simp); have p02 := hbx2.cellv p0; have lt0 := World.block_lt_of_cell? w2 _ e0; have lt1 := World.block_lt_of_cell? w2 _ q0; have lt2 := World.block_lt_of_cell? w2 _ p02; clear d0 d1 d2 d3 d4 d5 p0 h0 h1) | (go_at_call 53; refine (c_l1In _ _ _ hT _).mono ?_; rintro e w3 ⟨rfl, rfl⟩))
                      refine wp_region_ext (by kernel_rfl) (by kernel_rfl) ?_
                      (repeat (go_big_quiet_step (with_reducible exact Ext.same (c_l2Gap _ _ rfl (by omega) (by omega) (by omega) (by omega) _))))
                      (with_reducible refine wpQuiet_nil ?_)
                      intro w4 hb4
                    · have hs' := of_decide_eq_false hss
                      go_wp2
                      go_roundw
                      case rel => exact ⟨k + 1, by omega, by go_num, snoc_lt Hst.out (by rw [HO.out, HK.out, hS, hH, hT]; simp; omega), ((hbl.alloc _).trans hb2).trans hb4⟩
                      case measure => simp [intOf]; omega
                    · have hs' := of_decide_eq_true hss
                      go_wp2
                      go_ret
                      exact ⟨ret_bool (Hf.out (by rw [HO.out, HK.out, hS, hH, hT]; simp; omega)).symm, (((k1.trans hbl).alloc _).trans hb2).trans hb4⟩
                  · have dk0 : decide ((0 : Int) < (k : Int)) = false := by simpa using hk0
                    clear hc
                    go_wp2_with (first | (go_at_call 99; refine (c_l2Good _ hS _).mono ?_; rintro e w2 ⟨rfl, rfl⟩) | (go_at_call 100; refine (c_l9Held t z _ _ _ _ hH t0 t1 x0 x1 hn _).mono ?_; rintro e w2 ⟨rfl, hb2⟩; have hbx2 := (Bw.alloc (Bw.refl wr) _).trans hb2; have e3 := hbx2.cellv d3; have q0 := hb2.cellv (p := ⟨wr.heap.size, 0, none⟩) (v := .int .i64 (holdAt hs k).number) (by go_simp); have q1 := hb2.cellv (p := ⟨wr.heap.size, 1, none⟩) (v := .int .i64 (holdAt hs k).til) (by go_simp); clear d0 d1 d2 d3 d4 d5) | (go_at_call 53; refine (c_l1In _ _ _ hT _).mono ?_; rintro e w3 ⟨rfl, rfl⟩))
                    refine wp_region_ext (by kernel_rfl) (by kernel_rfl) ?_
                    (repeat (go_big_quiet_step (with_reducible exact Ext.same (c_l2Gap _ _ rfl (by omega) (by omega) (by omega) (by omega) _))))
                    (with_reducible refine wpQuiet_nil ?_)
                    intro w4 hb4
                    go_wp2
                    go_roundw
                    case rel => exact ⟨k + 1, by omega, by go_num, snoc_lt Hst.out (by rw [HO.out, HK.out, hS, hH, hT]; simp; omega), ((hbl.alloc _).trans hb2).trans hb4⟩
                    case measure => simp [intOf]; omega
          · go_wp2
            go_ret
            exact ⟨ret_bool (by rw [HE.out, allB_true (fun j hj => Hst.out j (by rw [hl2.out] at hj; omega))]), k1.trans hbl⟩
end Go.Proofs.YtpjljbhodnlhmaaGreatDoor
