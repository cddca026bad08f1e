
/- Sources: whether there is a hold for a serial. -/
import Derived.Test.YthdmnngmijbcbaaDoorT10
import Derived.Test.YthdmnngmijbcbaaDoorK12
namespace Go.Proofs.YthdmnngmijbcbaaDoor
open Go.RowKit
def numB (x : Int) (h : Hold) : Bool := decide (h.number = x)
def onB (hs : List Hold) (x : Int) : Bool := hs.any (numB x)
theorem onB_yes {hs : List Hold} {x : Int} {k : Nat} (hk : k < hs.length) (h : (holdAt hs k).number = x) : onB hs x = true := by
  rw [onB, List.any_eq_true]; exact ⟨hs[k], List.getElem_mem _, by rw [← holdAt_lt hk]; simp [numB, h]⟩
theorem onB_no {hs : List Hold} {x : Int} (h : ∀ j, j < hs.length → ¬ (holdAt hs j).number = x) : onB hs x = false := by
  rw [onB, List.any_eq_false]
  intro y hy
  obtain ⟨j, hj, rfl⟩ := List.getElem_of_mem hy
  have := h j hj
  rw [holdAt_lt hj] at this
  simpa [numB] using this
theorem idx_on (hs : List Hold) (x : Int) : decide (0 ≤ idxPI (numB x) hs) = onB hs x := by
  rw [idxPI]
  split
  · rename_i h
    have := List.findIdx_getElem (xs := hs) (p := numB x) (w := h)
    have h1 : onB hs x = true := by rw [onB, List.any_eq_true]; exact ⟨_, List.getElem_mem _, this⟩
    simp [h1]
  · rename_i h
    have h1 : onB hs x = false := by
      rw [onB, List.any_eq_false]
      intro y hy
      have := mt List.findIdx_lt_length.2 h
      simp only [not_exists, not_and] at this
      exact this y hy
    simp [h1]
theorem src_lt {t z : Int} {ss : List ByteArray} {ck q : Int} {hs : List Hold} (h : srcB t z ss ck q hs = true) {i j : Nat} (hij : i < j) (hj : j < hs.length) : gapI t (holdAt hs i).number < gapI t (holdAt hs j).number := by
  induction j with
  | zero => omega
  | succ j ih =>
    have := (srcB_iff.1 h).2.2.2 (j + 1) hj
    simp [stepH] at this
    rcases Nat.lt_or_ge i j with h1 | h1
    · have := ih h1 (by omega); omega
    · obtain rfl : i = j := by omega
      omega
theorem src_ser {t z : Int} {ss : List ByteArray} {ck q : Int} {hs : List Hold} (h : srcB t z ss ck q hs = true) {j : Nat} (hj : j < hs.length) : 0 ≤ (holdAt hs j).number ∧ (holdAt hs j).number ≤ 65535 := by
  have := (srcB_iff.1 h).2.2.2 j hj
  simp only [stepH, holdOk, Bool.and_eq_true] at this
  exact inR_iff.1 this.1.1
theorem gap_inj {t x y : Int} (x0 : 0 ≤ x) (x1 : x ≤ 65535) (y0 : 0 ≤ y) (y1 : y ≤ 65535) (h : gapI t x = gapI t y) : x = y := by
  unfold gapI at h; omega
/-- At the first place whose gap is no less the serial is there, if it is anywhere. -/
theorem on_at {t z : Int} {ss : List ByteArray} {ck q : Int} {hs : List Hold} (h : srcB t z ss ck q hs = true) {x : Int} (x0 : 0 ≤ x) (x1 : x ≤ 65535) {k : Nat} (hk : k < hs.length) (hge : ¬ gapI t (holdAt hs k).number < gapI t x) (hlt : ∀ j, j < k → gapI t (holdAt hs j).number < gapI t x) : onB hs x = decide ((holdAt hs k).number = x) := by
  by_cases he : (holdAt hs k).number = x
  · rw [onB_yes hk he]; simp [he]
  · rw [onB_no (fun j hj hjx => ?_)]
    · simp [he]
    · rcases Nat.lt_trichotomy j k with h1 | h1 | h1
      · have := hlt j h1; rw [hjx] at this; omega
      · subst h1; exact he hjx
      · have := src_lt h h1 hj; rw [hjx] at this; exact hge this
theorem on_none {t : Int} {hs : List Hold} {x : Int} (hlt : ∀ j, j < hs.length → gapI t (holdAt hs j).number < gapI t x) : onB hs x = false :=
  onB_no fun j hj hjx => by have := hlt j hj; rw [hjx] at this; omega
set_option maxRecDepth 100000 in
set_option maxHeartbeats 1000000 in
theorem c_l11Hold (t z : Int) (A : Option Addr) (n c : Nat) (ss : List ByteArray) (ck q : Int) (B : Option Addr) (m d : Nat) (hs : List Hold) (x : Int) (hg : srcB t z ss ck q hs = true) (t0 : 0 ≤ t) (t1 : t ≤ 65535) (x0 : 0 ≤ x) (x1 : x ≤ 65535) (w : World) (hm : m ≤ 9223372036854775807) (hh : Rd w B m 2 (hs.map Hold.cells)) :
    Calls Tryd.prog 77 #[.agg #[.int .i64 t, .int .i64 z, .slice A n c, .int .i64 ck, .int .i64 q, .slice B m d], .int .i64 x] w fun e w' => (∃ p : Int, e = .returned (.tuple #[.int .i64 p, .bool (onB hs x)])) ∧ Bw w w' := by
  have hl2 := Lib.hid hh.holdlen
  have Hg := Lib.hid hg
  clear hg
  have hbx : Bw w (w.alloc (.cells #[.int .i64 t, .int .i64 z, .slice A n c, .int .i64 ck, .int .i64 q, .slice B m d] 59)) := Bw.alloc (Bw.refl _) _
  have b0 : (w.alloc (.cells #[.int .i64 t, .int .i64 z, .slice A n c, .int .i64 ck, .int .i64 q, .slice B m d] 59)).cell? ⟨w.heap.size, 0, none⟩ = some (.int .i64 t) := by go_simp
  have b5 : (w.alloc (.cells #[.int .i64 t, .int .i64 z, .slice A n c, .int .i64 ck, .int .i64 q, .slice B m d] 59)).cell? ⟨w.heap.size, 5, none⟩ = some (.slice B m d) := by go_simp
  generalize hW : w.alloc (.cells #[.int .i64 t, .int .i64 z, .slice A n c, .int .i64 ck, .int .i64 q, .slice B m d] 59) = w1 at hbx b0 b5
  go_enter Tryd.func77, Tryd.ntmps77
  go_wp2
  clear hW
  go_loopw [6] (fun i wr => ∃ k : Nat, k ≤ m ∧ i = .int .i64 k ∧ (∀ j, j < k → gapI t (holdAt hs j).number < gapI t x) ∧ Bw w1 wr) (fun i _ => m - (intOf i).toNat)
  case atStart => exact ⟨0, Nat.zero_le _, rfl, fun j hj => absurd hj (by omega), Bw.refl _⟩
  case round =>
    obtain ⟨k, hk, rfl, hst, hbl⟩ := hrel
    have Hst := Lib.hid hst
    clear hst
    have e0 := hbl.cellv b0
    have e5 := hbl.cellv b5
    have ld := World.block_lt_of_cell? wr _ e0
    by_cases hlt : k < m
    · obtain ⟨b, off, rfl, hb, hc⟩ := (hh.keep (hbx.trans hbl)).hold (by omega)
      have ⟨h0, h1⟩ := hc k hlt
      clear hc
      have hkt : k < hs.length := by rw [hl2.out]; exact hlt
      have ⟨y0, y1⟩ := src_ser Hg.out hkt
      by_cases hgp : gapI t (holdAt hs k).number < gapI t x
      · have HN := Lib.hid (snoc_lt (p := fun j => gapI t (holdAt hs j).number < gapI t x) Hst.out hgp)
        go_wp2
        refine wp_region_ext (by kernel_rfl) (by kernel_rfl) ?_
        (repeat (go_big_quiet_step (with_reducible exact Ext.same (c_l2Gap _ _ rfl (by omega) (by omega) (by omega) (by omega) _))))
        (with_reducible refine wpQuiet_nil ?_)
        intro w4 hb4
        go_wp2
        go_roundw
        case rel => exact ⟨k + 1, by omega, by go_num, HN.out, hbl.trans hb4⟩
        case measure => simp [intOf]; omega
      · have HN := Lib.hid (on_at Hg.out x0 x1 hkt hgp Hst.out)
        go_wp2
        refine wp_region_ext (by kernel_rfl) (by kernel_rfl) ?_
        (repeat (go_big_quiet_step (with_reducible exact Ext.same (c_l2Gap _ _ rfl (by omega) (by omega) (by omega) (by omega) _))))
        (with_reducible refine wpQuiet_nil ?_)
        intro w4 hb4
        have f5 := hb4.cellv e5
        have q0 := hb4.cellv h0
        have lf := World.block_lt_of_cell? w4 _ f5
        have lq := World.block_lt_of_cell? w4 _ q0
        clear e0 e5 h0 h1 b0 b5
        go_wp2
        refine wp_region_ext (by kernel_rfl) (by kernel_rfl) ?_
        (repeat (go_big_quiet_step (fail)))
        (with_reducible refine wpQuiet_nil ?_)
        intro w5 hb5
        go_wp2
        go_ret2
        exact ⟨⟨_, by rw [HN.out]; rfl⟩, ((hbx.trans hbl).trans hb4).trans hb5⟩
    · obtain rfl : k = m := by omega
      have HN := Lib.hid (on_none (t := t) (hs := hs) (x := x) (fun j hj => Hst.out j (by rw [hl2.out] at hj; exact hj)))
      go_wp2
      refine wp_region_ext (by kernel_rfl) (by kernel_rfl) ?_
      (repeat (go_big_quiet_step (fail)))
      (with_reducible refine wpQuiet_nil ?_)
      intro w4 hb4
      have f5 := hb4.cellv e5
      have lf := World.block_lt_of_cell? w4 _ f5
      clear e0 e5 b0 b5
      go_wp2
      refine wp_region_ext (by kernel_rfl) (by kernel_rfl) ?_
      (repeat (go_big_quiet_step (fail)))
      (with_reducible refine wpQuiet_nil ?_)
      intro w5 hb5
      go_wp2
      go_ret2
      exact ⟨⟨_, by rw [HN.out]; rfl⟩, ((hbx.trans hbl).trans hb4).trans hb5⟩
theorem c_onHold1 (a b x : Int) (p : Nat) {r : Bool} (hr : numB x ⟨a, b⟩ = r) (w : World) (hp : w.cell? ⟨p, 0, none⟩ = some (.int .i64 x)) : Calls Tryd.prog 79 #[.agg #[.int .i64 a, .int .i64 b], .pointer (some ⟨p, 0, none⟩)] w fun e w' => e = .returned (.bool r) ∧ Bw w w' := by
  have HR := Lib.hid (show (a == x) = r by rw [← hr, numB]; rfl)
  clear hr
  have hlt := World.block_lt_of_cell? w _ hp
  go_enter Tryd.func79, Tryd.ntmps79
  go_wp2
  go_ret
  exact ⟨ret_bool HR.out, by (repeat (first | with_reducible assumption | exact Bw.refl _ | (with_reducible refine Bw.setCell ?_ (by simp) _) | (with_reducible refine Bw.alloc ?_ _) | (with_reducible refine Bw.drew ?_) | (with_reducible refine Bw.drewN ?_ _)))⟩
theorem c_IndexFuncHolds (A : Option Addr) (n c : Nat) (hs : List Hold) (x : Int) (p : Nat) {mm : Int} (hmm : idxPI (numB x) hs = mm) (w : World) (hm : n ≤ 9223372036854775807) (h : Rd w A n 2 (hs.map Hold.cells)) (hp : w.cell? ⟨p, 0, none⟩ = some (.int .i64 x)) :
    Calls Tryd.prog 91 #[.slice A n c, .func (.func 79) #[] #[.pointer (some ⟨p, 0, none⟩)]] w fun e w' => e = .returned (.int .i64 mm) ∧ Bw w w' := by
  subst hmm
  have hl := Lib.hid h.holdlen
  go_enter Tryd.func91, Tryd.ntmps91
  go_wp2
  go_loopw [8] (fun i wr => ∃ k : Nat, k ≤ n ∧ i = .int .i64 k ∧ (∀ j (hj : j < k) (hj2 : j < hs.length), numB x hs[j] = false) ∧ Bw w wr) (fun i _ => n - (intOf i).toNat)
  case atStart => exact ⟨0, Nat.zero_le _, rfl, fun j hj => absurd hj (by omega), Bw.refl _⟩
  case round =>
    obtain ⟨k, hk, rfl, hst, hbl⟩ := hrel
    have Hst := Lib.hid hst
    clear hst
    have hpr := hbl.cellv hp
    by_cases hkn : k < n
    · obtain ⟨b, off, rfl, hb, hc⟩ := (h.keep hbl).hold (by omega)
      have ⟨h0, h1⟩ := hc k hkn
      clear hc
      have hkt : k < hs.length := by rw [hl.out]; exact hkn
      have Ht := Lib.hid (holdAt_lt hkt)
      cases hpp : numB x (holdAt hs k)
      · have Hp := Lib.hid hpp
        go_wp2_with (go_at_call 79; refine (c_onHold1 _ _ x p Hp.out _ hpr).mono ?_; rintro e w1 ⟨rfl, hb1⟩)
        go_roundw
        case rel =>
          refine ⟨k + 1, by omega, by go_num, ?_, hbl.trans hb1⟩
          intro j hj hj2
          rcases Nat.lt_succ_iff_lt_or_eq.1 hj with h9 | h9
          · exact Hst.out j h9 hj2
          · subst h9; rw [← Ht.out]; exact hpp
        case measure => simp [intOf]; omega
      · have Hp := Lib.hid hpp
        go_wp2_with (go_at_call 79; refine (c_onHold1 _ _ x p Hp.out _ hpr).mono ?_; rintro e w1 ⟨rfl, hb1⟩)
        go_ret
        have he := idxP_eq (p := numB x) (ts := hs) hkt (by rw [← Ht.out]; exact hpp) (fun j hj => Hst.out j hj (by omega))
        exact ⟨ret_int (by simp [idxPI, he, hkt]), hbl.trans hb1⟩
    · go_wp2
      go_ret
      have he := idxP_none (p := numB x) (ts := hs) (fun j hj => Hst.out j (by rw [hl.out] at hj; omega) hj)
      exact ⟨ret_int (by simp [idxPI, he]), hbl⟩
theorem c_ContainsFuncHolds (A : Option Addr) (n c : Nat) (hs : List Hold) (x : Int) (p : Nat) {r : Bool} (hr : onB hs x = r) (w : World) (hm : n ≤ 9223372036854775807) (h : Rd w A n 2 (hs.map Hold.cells)) (hp : w.cell? ⟨p, 0, none⟩ = some (.int .i64 x)) :
    Calls Tryd.prog 78 #[.slice A n c, .func (.func 79) #[] #[.pointer (some ⟨p, 0, none⟩)]] w fun e w' => e = .returned (.bool r) ∧ Bw w w' := by
  subst hr
  generalize hm : idxPI (numB x) hs = mm
  have HR := Lib.hid (show decide (0 ≤ mm) = onB hs x by rw [← hm, idx_on])
  have HM := Lib.hid hm
  clear hm
  go_enter Tryd.func78, Tryd.ntmps78
  go_wp2_with (go_at_call 91; refine (c_IndexFuncHolds _ _ _ hs x p HM.out _ hm h hp).mono ?_; rintro e w1 ⟨rfl, hb1⟩)
  go_ret
  exact ⟨ret_bool HR.out, hb1⟩
def onC (t z : Int) (ss : List ByteArray) (ck q : Int) (hs : List Hold) (x : Int) : Bool := srcB t z ss ck q hs && inR x 0 65535
def onR (t z : Int) (ss : List ByteArray) (ck q : Int) (hs : List Hold) (x : Int) : Bool := onC t z ss ck q hs x && onB hs x
set_option maxRecDepth 100000 in
theorem c_sIsOnHold (t z : Int) (A : Option Addr) (n c : Nat) (ss : List ByteArray) (hf : fitS ss) (ck q : Int) (B : Option Addr) (m d : Nat) (hs : List Hold) (x : Int) {v : Bool} (hv : onR t z ss ck q hs x = v) {r : Bool} (hr : onC t z ss ck q hs x = r) (w : World) (hn : n ≤ 9223372036854775807) (hm : m ≤ 9223372036854775807) (h : Rd w A n 1 (ss.map scell)) (hh : Rd w B m 2 (hs.map Hold.cells)) :
    Calls Tryd.prog 46 #[.agg #[.int .i64 t, .int .i64 z, .slice A n c, .int .i64 ck, .int .i64 q, .slice B m d], .int .i64 x] w fun e w' => e = .returned (.tuple #[.bool v, .bool r]) ∧ Bw w w' := by
  have hbx : Bw w (w.alloc (.cells #[.int .i64 t, .int .i64 z, .slice A n c, .int .i64 ck, .int .i64 q, .slice B m d] 59)) := Bw.alloc (Bw.refl _) _
  subst hv hr
  cases hg : srcB t z ss ck q hs
  · have HR := Lib.hid (show onR t z ss ck q hs x = false ∧ onC t z ss ck q hs x = false by simp [onR, onC, hg])
    rw [HR.out.1, HR.out.2]
    go_enter Tryd.func46, Tryd.ntmps46
    go_wp2_with (go_at_call 70; refine (c_l11Good t z _ _ _ ss hf ck q _ _ _ hs hg _ hn hm (h.keep hbx) (hh.keep hbx)).mono ?_; rintro e w1 ⟨rfl, hb1⟩)
    go_ret2
    exact ⟨rfl, hbx.trans hb1⟩
  · have ⟨t0, t1⟩ := inR_iff.1 (swB_iff.1 (srcB_iff.1 hg).1).1
    have Hg := Lib.hid hg
    cases hx : inR x 0 65535
    · have HR := Lib.hid (show onR t z ss ck q hs x = false ∧ onC t z ss ck q hs x = false by simp [onR, onC, hx])
      rw [HR.out.1, HR.out.2]
      clear hg
      go_enter Tryd.func46, Tryd.ntmps46
      go_wp2_with (first | (go_at_call 70; refine (c_l11Good t z _ _ _ ss hf ck q _ _ _ hs Hg.out _ hn hm (h.keep hbx) (hh.keep hbx)).mono ?_; rintro e w1 ⟨rfl, hb1⟩) | (go_at_call 57; refine (c_l2Good _ hx _).mono ?_; rintro e w2 ⟨rfl, rfl⟩))
      go_ret2
      exact ⟨rfl, hbx.trans hb1⟩
    · have ⟨x0, x1⟩ := inR_iff.1 hx
      have HR := Lib.hid (show onR t z ss ck q hs x = onB hs x ∧ onC t z ss ck q hs x = true by simp [onR, onC, hx, hg])
      rw [HR.out.1, HR.out.2]
      clear hg
      go_enter Tryd.func46, Tryd.ntmps46
      go_wp2_with (first | (go_at_call 70; refine (c_l11Good t z _ _ _ ss hf ck q _ _ _ hs Hg.out _ hn hm (h.keep hbx) (hh.keep hbx)).mono ?_; rintro e w1 ⟨rfl, hb1⟩; have d0 := hb1.cellv (p := ⟨w.heap.size, 0, none⟩) (v := .int .i64 t) (by go_simp); have d1 := hb1.cellv (p := ⟨w.heap.size, 1, none⟩) (v := .int .i64 z) (by go_simp); have d2 := hb1.cellv (p := ⟨w.heap.size, 2, none⟩) (v := .slice A n c) (by go_simp); have d3 := hb1.cellv (p := ⟨w.heap.size, 3, none⟩) (v := .int .i64 ck) (by go_simp); have d4 := hb1.cellv (p := ⟨w.heap.size, 4, none⟩) (v := .int .i64 q) (by go_simp); have d5 := hb1.cellv (p := ⟨w.heap.size, 5, none⟩) (v := .slice B m d) (by go_simp)) | (go_at_call 57; refine (c_l2Good _ hx _).mono ?_; rintro e w2 ⟨rfl, rfl⟩) | (go_at_call 77; refine (c_l11Hold t z _ _ _ ss ck q _ _ _ hs x Hg.out t0 t1 x0 x1 _ hm (hh.keep (hbx.trans hb1))).mono ?_; rintro e w3 ⟨⟨p, rfl⟩, hb3⟩))
      go_ret2
      exact ⟨rfl, (hbx.trans hb1).trans hb3⟩
set_option maxRecDepth 100000 in
theorem c_iIsOnHold (t z : Int) (A : Option Addr) (n c : Nat) (ss : List ByteArray) (hf : fitS ss) (ck q : Int) (B : Option Addr) (m d : Nat) (hs : List Hold) (x : Int) {v : Bool} (hv : onR t z ss ck q hs x = v) {r : Bool} (hr : onC t z ss ck q hs x = r) (w : World) (hn : n ≤ 9223372036854775807) (hm : m ≤ 9223372036854775807) (h : Rd w A n 1 (ss.map scell)) (hh : Rd w B m 2 (hs.map Hold.cells)) :
    Calls Tryd.prog 47 #[.agg #[.int .i64 t, .int .i64 z, .slice A n c, .int .i64 ck, .int .i64 q, .slice B m d], .int .i64 x] w fun e w' => e = .returned (.tuple #[.bool v, .bool r]) ∧ Bw w w' := by
  have hbx : Bw w ((w.alloc (.cells #[.int .i64 t, .int .i64 z, .slice A n c, .int .i64 ck, .int .i64 q, .slice B m d] 59)).alloc (.cells #[.int .i64 x] 3)) := Bw.alloc (Bw.alloc (Bw.refl _) _) _
  subst hv hr
  cases hg : srcB t z ss ck q hs
  · have HR := Lib.hid (show onR t z ss ck q hs x = false ∧ onC t z ss ck q hs x = false by simp [onR, onC, hg])
    rw [HR.out.1, HR.out.2]
    go_enter Tryd.func47, Tryd.ntmps47
    go_wp2_with (go_at_call 38; refine (c_IsValidSource t z _ _ _ ss hf ck q _ _ _ hs hg _ hn hm (h.keep hbx) (hh.keep hbx)).mono ?_; rintro e w1 ⟨rfl, hb1⟩)
    go_ret2
    exact ⟨rfl, hbx.trans hb1⟩
  · have Hg := Lib.hid hg
    cases hx : inR x 0 65535
    · have HR := Lib.hid (show onR t z ss ck q hs x = false ∧ onC t z ss ck q hs x = false by simp [onR, onC, hx])
      rw [HR.out.1, HR.out.2]
      clear hg
      go_enter Tryd.func47, Tryd.ntmps47
      go_wp2_with (first | (go_at_call 38; refine (c_IsValidSource t z _ _ _ ss hf ck q _ _ _ hs Hg.out _ hn hm (h.keep hbx) (hh.keep hbx)).mono ?_; rintro e w1 ⟨rfl, hb1⟩; have dx := hb1.cellv (p := ⟨w.heap.size + 1, 0, none⟩) (v := .int .i64 x) (by go_simp)) | (go_at_call 51; refine (c_IsSerial _ hx _).mono ?_; rintro e w2 ⟨rfl, rfl⟩))
      go_ret2
      exact ⟨rfl, hbx.trans hb1⟩
    · have HR := Lib.hid (show onR t z ss ck q hs x = onB hs x ∧ onC t z ss ck q hs x = true by simp [onR, onC, hx, hg])
      rw [HR.out.1, HR.out.2]
      clear hg
      go_enter Tryd.func47, Tryd.ntmps47
      go_wp2_with (first | (go_at_call 38; refine (c_IsValidSource t z _ _ _ ss hf ck q _ _ _ hs Hg.out _ hn hm (h.keep hbx) (hh.keep hbx)).mono ?_; rintro e w1 ⟨rfl, hb1⟩; have dx := hb1.cellv (p := ⟨w.heap.size + 1, 0, none⟩) (v := .int .i64 x) (by go_simp); have d5 := hb1.cellv (p := ⟨w.heap.size, 5, none⟩) (v := .slice B m d) (by go_simp)) | (go_at_call 51; refine (c_IsSerial _ hx _).mono ?_; rintro e w2 ⟨rfl, rfl⟩) | (go_at_call 78; refine (c_ContainsFuncHolds _ _ _ hs x (w.heap.size + 1) rfl _ hm (hh.keep (hbx.trans hb1)) dx).mono ?_; rintro e w3 ⟨rfl, hb3⟩))
      go_ret2
      exact ⟨rfl, (hbx.trans hb1).trans hb3⟩
end Go.Proofs.YthdmnngmijbcbaaDoor
