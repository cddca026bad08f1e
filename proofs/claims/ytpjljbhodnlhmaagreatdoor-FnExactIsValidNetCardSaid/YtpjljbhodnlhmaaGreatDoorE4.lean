
/- Elements: which are valid; the place of an entry. -/
import Derived.Test.YtpjljbhodnlhmaaGreatDoorE3
namespace Go.Proofs.YtpjljbhodnlhmaaGreatDoor
open Go.RowKit
/-- The place of the first entry with a number, among the first m; or -1. -/
def posN (es : List Ev) (m : Nat) (x : Int) : Int := if (List.range m).findIdx (fun j => (evAt es j).num == x) < m then ((List.range m).findIdx (fun j => (evAt es j).num == x) : Int) else -1
theorem posN_at {es : List Ev} {m k : Nat} {x : Int} (hk : k < m) (he : (evAt es k).num = x) (hn : ∀ j, j < k → (evAt es j).num ≠ x) : posN es m x = k := by
  have h1 : (List.range m).findIdx (fun j => (evAt es j).num == x) = k := by
    rcases Nat.lt_trichotomy ((List.range m).findIdx (fun j => (evAt es j).num == x)) k with h | h | h
    · have h2 := List.findIdx_getElem (xs := List.range m) (p := fun j => (evAt es j).num == x) (w := by simp; omega)
      simp only [List.getElem_range, beq_iff_eq] at h2
      exact absurd h2 (hn _ h)
    · exact h
    · have h2 := List.not_of_lt_findIdx h
      simp [he] at h2
  simp [posN, h1, hk]
theorem posN_none {es : List Ev} {m : Nat} {x : Int} (hn : ∀ j, j < m → (evAt es j).num ≠ x) : posN es m x = -1 := by
  have h1 : ¬ (List.range m).findIdx (fun j => (evAt es j).num == x) < m := by
    intro h
    have h2 := List.findIdx_getElem (xs := List.range m) (p := fun j => (evAt es j).num == x) (w := by simpa using h)
    simp only [List.getElem_range, beq_iff_eq] at h2
    exact hn _ h h2
  simp [posN, h1]
theorem posN_cases (es : List Ev) (m : Nat) (x : Int) : posN es m x = -1 ∨ ∃ k : Nat, k < m ∧ posN es m x = k ∧ (evAt es k).num = x := by
  unfold posN
  split
  · rename_i h
    refine .inr ⟨_, h, rfl, ?_⟩
    have h2 := List.findIdx_getElem (xs := List.range m) (p := fun j => (evAt es j).num == x) (w := by simpa using h)
    simpa using h2
  · exact .inl rfl
def oneE (ck : Int) (es : List Ev) (k : Nat) : Bool := inR (evAt es k).num 0 65535 && (!decide ((evAt es k).fs.length = 0) && (riseB 1 7 (evAt es k).fs && (inR (evAt es k).unt (ck + 1) (ck + 6) && !decide (0 ≤ posN es k (evAt es k).num))))
def elB (ck : Int) (es : List Ev) : Bool := inR ck 0 9999 && (decide (es.length ≤ 5) && allB (oneE ck es) es.length)
theorem elB_false {ck : Int} {es : List Ev} {k : Nat} (hk : k < es.length) (h : oneE ck es k = false) : elB ck es = false := by simp [elB, allB_false hk h]
theorem elB_true {ck : Int} {es : List Ev} (hk : inR ck 0 9999 = true) (h : ∀ j, j < es.length → oneE ck es j = true) : elB ck es = decide (es.length ≤ 5) := by simp [elB, hk, allB_true h]
theorem elB_iff {ck : Int} {es : List Ev} : elB ck es = true ↔ inR ck 0 9999 = true ∧ es.length ≤ 5 ∧ ∀ j, j < es.length → oneE ck es j = true := by
  constructor
  · intro h
    simp only [elB, Bool.and_eq_true, decide_eq_true_eq] at h
    exact ⟨h.1, h.2.1, allB_elim h.2.2⟩
  · rintro ⟨h1, h2, h3⟩
    rw [elB_true h1 h3]; simpa using h2
set_option maxRecDepth 100000 in
theorem c_l14Good (ck : Int) (A : Option Addr) (n c : Nat) (es : List Ev) (ts : List Ent) {r : Bool} (hr : elB ck es = r) (w : World) (hm : n ≤ 9223372036854775807) (h : RdE w A n es ts) :
    Calls Tryz.prog 116 #[.agg #[.int .i64 ck, .slice A n c]] w fun e w' => e = .returned (.bool r) ∧ Bw w w' := by
  subst hr
  have hl := Lib.hid h.len
  have hbx : Bw w (w.alloc (.cells #[.int .i64 ck, .slice A n c] 89)) := Bw.alloc (Bw.refl _) _
  cases hk : inR ck 0 9999
  · have HR := Lib.hid (show elB ck es = false by simp [elB, hk])
    rw [HR.out]
    go_enter Tryz.func116, Tryz.ntmps116
    go_wp2_with (go_at_call 98; refine (c_l11Clock _ hk _).mono ?_; rintro e w1 ⟨rfl, rfl⟩)
    go_ret
    exact ⟨rfl, hbx⟩
  · have HK := Lib.hid hk
    have ⟨k0, k1⟩ := inR_iff.1 hk
    by_cases h5 : n ≤ 5
    · go_enter Tryz.func116, Tryz.ntmps116
      go_wp2_with (go_at_call 98; refine (c_l11Clock _ hk _).mono ?_; rintro e w1 ⟨rfl, rfl⟩)
      clear hk
      go_loopw [3] (fun i wr => ∃ k : Nat, k ≤ n ∧ i = .int .i64 k ∧ (∀ j, j < k → oneE ck es j = true) ∧ Bw (w.alloc (.cells #[.int .i64 ck, .slice A n c] 89)) wr) (fun i _ => n - (intOf i).toNat)
      case atStart => exact ⟨0, Nat.zero_le _, rfl, fun j hj => absurd hj (by omega), Bw.refl _⟩
      case round =>
        obtain ⟨k, hk, rfl, hst, hbl⟩ := hrel
        have Hst := Lib.hid hst
        clear hst
        have hbw := hbx.trans hbl
        have b0 := hbl.cellv (p := ⟨w.heap.size, 0, none⟩) (v := .int .i64 ck) (by go_simp)
        have b1 := hbl.cellv (p := ⟨w.heap.size, 1, none⟩) (v := .slice A n c) (by go_simp)
        by_cases hlt : k < n
        · have HH := Lib.hid (h.keep hbw)
          obtain ⟨b, off, rfl, hb, hc⟩ := HH.out.at_ (by omega)
          have ⟨q0, q1, q2⟩ := hc k hlt
          have HI := Lib.hid (HH.out.ints hlt)
          have HM := Lib.hid (show (entAt ts k).n ≤ 9223372036854775807 by have := (HH.out.fs k hlt).2; unfold maxLen at this; omega)
          have HL := Lib.hid (HI.out.ilen)
          have Hf := Lib.hid (fun hh => elB_false (ck := ck) (es := es) (k := k) (by rw [hl.out]; exact hlt) hh)
          clear hc
          cases ho1 : inR (evAt es k).num 0 65535
          · go_wp2_with (first | (go_at_call 99; refine (c_l2Good _ ho1 _).mono ?_; rintro e w1 ⟨rfl, rfl⟩) | (go_at_call 146; refine (c_l14Faces _ _ _ _ ho2 _ HM.out (HI.out.keep (by (repeat (first | with_reducible assumption | exact Bw.refl _ | (with_reducible refine Bw.setCell ?_ (by simp) _) | (with_reducible refine Bw.alloc ?_ _) | (with_reducible refine Bw.drew ?_) | (with_reducible refine Bw.drewN ?_ _)))))).mono ?_; rintro e w2 ⟨rfl, hb2⟩; have x0 := hb2.cellv (p := ⟨wr.heap.size, 0, none⟩) (v := .int .i64 (evAt es k).num) (by go_simp); have x2 := hb2.cellv (p := ⟨wr.heap.size, 2, none⟩) (v := .int .i64 (evAt es k).unt) (by go_simp); have k2 := (Bw.alloc (Bw.refl wr) _).trans hb2; have c0 := k2.cellv b0; have c1 := k2.cellv b1) | (go_at_call 53; refine (c_l1In _ _ _ ho3 _).mono ?_; rintro e w1 ⟨rfl, rfl⟩))
            go_ret
            exact ⟨ret_bool (Hf.out (by simp [oneE, ho1])).symm, hbw.trans (by (repeat (first | with_reducible assumption | exact Bw.refl _ | (with_reducible refine Bw.setCell ?_ (by simp) _) | (with_reducible refine Bw.alloc ?_ _) | (with_reducible refine Bw.drew ?_) | (with_reducible refine Bw.drewN ?_ _))))⟩
          · cases hz : (((entAt ts k).n : Int) == 0)
            · have HZ := Lib.hid (show decide ((evAt es k).fs.length = 0) = false by rw [HL.out]; simp at hz ⊢; omega)
              cases ho2 : riseB 1 7 (evAt es k).fs
              · go_wp2_with (first | (go_at_call 99; refine (c_l2Good _ ho1 _).mono ?_; rintro e w1 ⟨rfl, rfl⟩) | (go_at_call 146; refine (c_l14Faces _ _ _ _ ho2 _ HM.out (HI.out.keep (by (repeat (first | with_reducible assumption | exact Bw.refl _ | (with_reducible refine Bw.setCell ?_ (by simp) _) | (with_reducible refine Bw.alloc ?_ _) | (with_reducible refine Bw.drew ?_) | (with_reducible refine Bw.drewN ?_ _)))))).mono ?_; rintro e w2 ⟨rfl, hb2⟩; have x0 := hb2.cellv (p := ⟨wr.heap.size, 0, none⟩) (v := .int .i64 (evAt es k).num) (by go_simp); have x2 := hb2.cellv (p := ⟨wr.heap.size, 2, none⟩) (v := .int .i64 (evAt es k).unt) (by go_simp); have k2 := (Bw.alloc (Bw.refl wr) _).trans hb2; have c0 := k2.cellv b0; have c1 := k2.cellv b1) | (go_at_call 53; refine (c_l1In _ _ _ ho3 _).mono ?_; rintro e w1 ⟨rfl, rfl⟩))
                go_ret
                exact ⟨ret_bool (Hf.out (by simp [oneE, ho2])).symm, hbw.trans k2⟩
              · cases ho3 : inR (evAt es k).unt (ck + 1) (ck + 6)
                · go_wp2_with (first | (go_at_call 99; refine (c_l2Good _ ho1 _).mono ?_; rintro e w1 ⟨rfl, rfl⟩) | (go_at_call 146; refine (c_l14Faces _ _ _ _ ho2 _ HM.out (HI.out.keep (by (repeat (first | with_reducible assumption | exact Bw.refl _ | (with_reducible refine Bw.setCell ?_ (by simp) _) | (with_reducible refine Bw.alloc ?_ _) | (with_reducible refine Bw.drew ?_) | (with_reducible refine Bw.drewN ?_ _)))))).mono ?_; rintro e w2 ⟨rfl, hb2⟩; have x0 := hb2.cellv (p := ⟨wr.heap.size, 0, none⟩) (v := .int .i64 (evAt es k).num) (by go_simp); have x2 := hb2.cellv (p := ⟨wr.heap.size, 2, none⟩) (v := .int .i64 (evAt es k).unt) (by go_simp); have k2 := (Bw.alloc (Bw.refl wr) _).trans hb2; have c0 := k2.cellv b0; have c1 := k2.cellv b1) | (go_at_call 53; refine (c_l1In _ _ _ ho3 _).mono ?_; rintro e w1 ⟨rfl, rfl⟩))
                  go_ret
                  exact ⟨ret_bool (Hf.out (by simp [oneE, ho3])).symm, hbw.trans k2⟩
                · go_wp2_with (first | (go_at_call 99; refine (c_l2Good _ ho1 _).mono ?_; rintro e w1 ⟨rfl, rfl⟩) | (go_at_call 146; refine (c_l14Faces _ _ _ _ ho2 _ HM.out (HI.out.keep (by (repeat (first | with_reducible assumption | exact Bw.refl _ | (with_reducible refine Bw.setCell ?_ (by simp) _) | (with_reducible refine Bw.alloc ?_ _) | (with_reducible refine Bw.drew ?_) | (with_reducible refine Bw.drewN ?_ _)))))).mono ?_; rintro e w2 ⟨rfl, hb2⟩; have x0 := hb2.cellv (p := ⟨wr.heap.size, 0, none⟩) (v := .int .i64 (evAt es k).num) (by go_simp); have x2 := hb2.cellv (p := ⟨wr.heap.size, 2, none⟩) (v := .int .i64 (evAt es k).unt) (by go_simp); have k2 := (Bw.alloc (Bw.refl wr) _).trans hb2; have c0 := k2.cellv b0; have c1 := k2.cellv b1) | (go_at_call 53; refine (c_l1In _ _ _ ho3 _).mono ?_; rintro e w1 ⟨rfl, rfl⟩))
                  have HO := Lib.hid (show oneE ck es k = !decide (0 ≤ posN es k (evAt es k).num) by simp only [oneE, ho1, ho2, ho3, HZ.out]; simp)
                  clear ho1 ho2 ho3 hz
                  go_loopw [5] (fun i wq => ∃ j : Nat, j ≤ k ∧ i = .int .i64 j ∧ (∀ i, i < j → (evAt es i).num ≠ (evAt es k).num) ∧ Bw w2 wq) (fun i _ => k - (intOf i).toNat)
                  case atStart => exact ⟨0, Nat.zero_le _, rfl, fun j hj => absurd hj (by omega), Bw.refl _⟩
                  case round =>
                    obtain ⟨j, hj, rfl, hsj, hbq⟩ := hrel
                    have Hsj := Lib.hid hsj
                    clear hsj
                    have y0 := hbq.cellv x0
                    have y1 := hbq.cellv c1
                    have z0 := World.block_lt_of_cell? _ _ y0
                    have z1 := World.block_lt_of_cell? _ _ y1
                    dsimp only at z0 z1
                    by_cases hjk : j < k
                    · obtain ⟨b', off', hA', hb', hc'⟩ := (h.keep ((hbw.trans k2).trans hbq)).at_ (by omega)
                      simp only [Option.some.injEq, Addr.mk.injEq, and_true] at hA'
                      obtain ⟨rfl, rfl⟩ := hA'
                      have ⟨r0, r1, r2⟩ := hc' j (by omega)
                      clear hc'
                      cases he : ((evAt es j).num == (evAt es k).num)
                      · go_wp2
                        (refine wp_region_ext (by kernel_rfl) (by kernel_rfl) ?_; (repeat (go_big_quiet_step (fail))); (with_reducible refine wpQuiet_nil ?_); intro w2 hb2)
                        go_wp2
                        go_roundw
                        case rel => exact ⟨j + 1, by omega, by go_num, snoc_lt Hsj.out (by simpa using he), hbq.trans hb2⟩
                        case measure => simp [intOf]; omega
                      · go_wp2
                        (refine wp_region_ext (by kernel_rfl) (by kernel_rfl) ?_; (repeat (go_big_quiet_step (fail))); (with_reducible refine wpQuiet_nil ?_); intro w2 hb2)
                        go_wp2
                        go_ret
                        exact ⟨ret_bool (Hf.out (by rw [HO.out, posN_at hjk (by simpa using he) Hsj.out]; simp)).symm, ((hbw.trans k2).trans hbq).trans hb2⟩
                    · go_wp2
                      go_roundw
                      case rel => exact ⟨k + 1, by omega, by go_num, snoc_lt Hst.out (by rw [HO.out, posN_none (fun i hi => Hsj.out i (by omega))]; simp), (hbl.trans k2).trans hbq⟩
                      case measure => simp [intOf]; omega
            · have HZ := Lib.hid (show decide ((evAt es k).fs.length = 0) = true by rw [HL.out]; simp at hz ⊢; omega)
              go_wp2_with (first | (go_at_call 99; refine (c_l2Good _ ho1 _).mono ?_; rintro e w1 ⟨rfl, rfl⟩) | (go_at_call 146; refine (c_l14Faces _ _ _ _ ho2 _ HM.out (HI.out.keep (by (repeat (first | with_reducible assumption | exact Bw.refl _ | (with_reducible refine Bw.setCell ?_ (by simp) _) | (with_reducible refine Bw.alloc ?_ _) | (with_reducible refine Bw.drew ?_) | (with_reducible refine Bw.drewN ?_ _)))))).mono ?_; rintro e w2 ⟨rfl, hb2⟩; have x0 := hb2.cellv (p := ⟨wr.heap.size, 0, none⟩) (v := .int .i64 (evAt es k).num) (by go_simp); have x2 := hb2.cellv (p := ⟨wr.heap.size, 2, none⟩) (v := .int .i64 (evAt es k).unt) (by go_simp); have k2 := (Bw.alloc (Bw.refl wr) _).trans hb2; have c0 := k2.cellv b0; have c1 := k2.cellv b1) | (go_at_call 53; refine (c_l1In _ _ _ ho3 _).mono ?_; rintro e w1 ⟨rfl, rfl⟩))
              go_ret
              exact ⟨ret_bool (Hf.out (by simp only [oneE, HZ.out]; simp)).symm, hbw.trans (by (repeat (first | with_reducible assumption | exact Bw.refl _ | (with_reducible refine Bw.setCell ?_ (by simp) _) | (with_reducible refine Bw.alloc ?_ _) | (with_reducible refine Bw.drew ?_) | (with_reducible refine Bw.drewN ?_ _))))⟩
        · go_wp2
          go_ret
          exact ⟨ret_bool (by rw [elB_true HK.out (by rw [hl.out]; intro j hj; exact Hst.out j (by omega)), hl.out]; simp [h5]), hbw⟩
    · have HR := Lib.hid (show elB ck es = false by simp [elB, hl.out, h5])
      rw [HR.out]
      go_enter Tryz.func116, Tryz.ntmps116
      go_wp2_with (go_at_call 98; refine (c_l11Clock _ hk _).mono ?_; rintro e w1 ⟨rfl, rfl⟩)
      go_ret
      exact ⟨rfl, hbx⟩
end Go.Proofs.YtpjljbhodnlhmaaGreatDoor
