
/- AnswerTo: both sides. -/
import Derived.Test.YthdmnngmijbcbaaDoorS10
namespace Go.Proofs.YthdmnngmijbcbaaDoor
open Go.RowKit
def ansC (t z : Int) (ss : List ByteArray) (k nu tr le : Int) (d : ByteArray) : Bool := swB t z ss && (pkB k nu tr le d && ((k == 3) && heldB t ss.length nu))
def ansV (t z : Int) (ss : List ByteArray) (k nu tr le : Int) (d : ByteArray) : Value := if ansC t z ss k nu tr le d then .agg #[.int .i64 2, .int .i64 nu, .int .i64 t, .int .i64 (aftI t ss.length), .string (strAt ss (gapI t nu).toNat)] else .agg #[.int .i64 0, .int .i64 0, .int .i64 0, .int .i64 0, .string ⟨#[]⟩]
theorem ans_form (t z : Int) (ss : List ByteArray) (k nu tr le : Int) (d : ByteArray) : ∃ (a b c e : Int) (f : ByteArray), ansV t z ss k nu tr le d = .agg #[.int .i64 a, .int .i64 b, .int .i64 c, .int .i64 e, .string f] := by
  unfold ansV; split
  · exact ⟨_, _, _, _, _, rfl⟩
  · exact ⟨_, _, _, _, _, rfl⟩
/-- The three variables of a call. -/
structure AnsBox (b : Nat) (t z : Int) (A : Option Addr) (n c : Nat) (k nu tr le : Int) (d : ByteArray) (W : World) : Prop where
  d0 : W.cell? ⟨b, 0, none⟩ = some (.int .i64 t)
  d1 : W.cell? ⟨b, 1, none⟩ = some (.int .i64 z)
  d2 : W.cell? ⟨b, 2, none⟩ = some (.slice A n c)
  p0 : W.cell? ⟨b + 1, 0, none⟩ = some (.int .i64 k)
  p1 : W.cell? ⟨b + 1, 1, none⟩ = some (.int .i64 nu)
  p2 : W.cell? ⟨b + 1, 2, none⟩ = some (.int .i64 tr)
  p3 : W.cell? ⟨b + 1, 3, none⟩ = some (.int .i64 le)
  p4 : W.cell? ⟨b + 1, 4, none⟩ = some (.string d)
  e0 : W.cell? ⟨b + 2, 0, none⟩ = some (.int .i64 0)
  e1 : W.cell? ⟨b + 2, 1, none⟩ = some (.int .i64 0)
  e2 : W.cell? ⟨b + 2, 2, none⟩ = some (.int .i64 0)
  e3 : W.cell? ⟨b + 2, 3, none⟩ = some (.int .i64 0)
  e4 : W.cell? ⟨b + 2, 4, none⟩ = some (.string ⟨#[]⟩)
  ff : ∀ j, W.frozen? ⟨b + 2, j, none⟩ = false
theorem AnsBox.keep {b : Nat} {t z : Int} {A : Option Addr} {n c : Nat} {k nu tr le : Int} {d : ByteArray} {W W' : World} (h : AnsBox b t z A n c k nu tr le d W) (hb : Bw W W') : AnsBox b t z A n c k nu tr le d W' :=
  ⟨hb.cellv h.d0, hb.cellv h.d1, hb.cellv h.d2, hb.cellv h.p0, hb.cellv h.p1, hb.cellv h.p2, hb.cellv h.p3, hb.cellv h.p4, hb.cellv h.e0, hb.cellv h.e1, hb.cellv h.e2, hb.cellv h.e3, hb.cellv h.e4, fun j => (hb.frz ⟨b + 2, j, none⟩ (show b + 2 < W.heap.size from World.block_lt_of_cell? W ⟨b + 2, 0, none⟩ h.e0)).trans (h.ff j)⟩
set_option maxRecDepth 100000 in
set_option maxHeartbeats 2000000 in
theorem c_sAnswerTo (t z : Int) (A : Option Addr) (n c : Nat) (ss : List ByteArray) (hf : fitS ss) (k nu tr le : Int) (d : ByteArray) (hd : d.size ≤ maxLen) {v : Value} (hv : ansV t z ss k nu tr le d = v) {r : Bool} (hr : ansC t z ss k nu tr le d = r) (w : World) (hn : n ≤ 9223372036854775807) (h : Rd w A n 1 (ss.map scell)) :
    Calls Tryd.prog 26 #[.agg #[.int .i64 t, .int .i64 z, .slice A n c], .agg #[.int .i64 k, .int .i64 nu, .int .i64 tr, .int .i64 le, .string d]] w fun e w' => e = .returned (.tuple #[v, .bool r]) ∧ Bw w w' := by
  have hl := Lib.hid h.slen
  have hk0 : Bw w (((w.alloc (.cells #[.int .i64 t, .int .i64 z, .slice A n c] 27)).alloc (.cells #[.int .i64 k, .int .i64 nu, .int .i64 tr, .int .i64 le, .string d] 37)).alloc (.cells #[.int .i64 0, .int .i64 0, .int .i64 0, .int .i64 0, .string ⟨#[]⟩] 37)) := by (repeat (first | with_reducible assumption | exact Bw.refl _ | (with_reducible refine Bw.setCell ?_ (by simp) _) | (with_reducible refine Bw.alloc ?_ _) | (with_reducible refine Bw.drew ?_) | (with_reducible refine Bw.drewN ?_ _)))
  have hB0 : AnsBox w.heap.size t z A n c k nu tr le d (((w.alloc (.cells #[.int .i64 t, .int .i64 z, .slice A n c] 27)).alloc (.cells #[.int .i64 k, .int .i64 nu, .int .i64 tr, .int .i64 le, .string d] 37)).alloc (.cells #[.int .i64 0, .int .i64 0, .int .i64 0, .int .i64 0, .string ⟨#[]⟩] 37)) := by constructor <;> go_simp
  cases hg : swB t z ss
  · have HR := Lib.hid (show v = .agg #[.int .i64 0, .int .i64 0, .int .i64 0, .int .i64 0, .string ⟨#[]⟩] ∧ r = false by rw [← hv, ← hr]; simp [ansV, ansC, hg])
    clear hv hr
    go_enter Tryd.func26, Tryd.ntmps26
    go_wp2_with fail
    refine (c_l9Good t z _ _ _ ss hf hg _ hn (h.keep hk0)).mono ?_
    rintro e w1 ⟨rfl, hb1⟩
    have hk1 := hk0.trans hb1
    obtain ⟨d0, d1, d2, p0, p1, p2, p3, p4, e0, e1, e2, e3, e4, ff⟩ := hB0.keep hb1
    clear hB0
    go_wp2_with fail
    have hkE := hk1
    rw [HR.out.1, HR.out.2]
    refine bodyPost_ret (v := .tuple #[.agg #[.int .i64 0, .int .i64 0, .int .i64 0, .int .i64 0, .string ⟨#[]⟩], .bool false]) (by simp [results, Tryd.results26, go_sem, e0, e1, e2, e3, e4]) rfl ⟨rfl, ?_⟩
    (repeat (first | with_reducible assumption | exact Bw.refl _ | (with_reducible refine Bw.setCell ?_ (by dsimp only; omega) _) | (with_reducible refine Bw.alloc ?_ _) | (with_reducible refine Bw.drew ?_) | (with_reducible refine Bw.drewN ?_ _)))
  · obtain ⟨g1, g2, g3, g4⟩ := swB_iff.1 hg
    have ⟨t0, t1⟩ := inR_iff.1 g1
    have ⟨z0, z1⟩ := inR_iff.1 g2
    have hn6 : n ≤ 6 := by have := hl.out; omega
    clear g1 g2 g3 g4
    cases hp : pkB k nu tr le d
    · have HR := Lib.hid (show v = .agg #[.int .i64 0, .int .i64 0, .int .i64 0, .int .i64 0, .string ⟨#[]⟩] ∧ r = false by rw [← hv, ← hr]; simp [ansV, ansC, hp])
      clear hv hr
      go_enter Tryd.func26, Tryd.ntmps26
      go_wp2_with fail
      refine (c_l9Good t z _ _ _ ss hf hg _ hn (h.keep hk0)).mono ?_
      rintro e w1 ⟨rfl, hb1⟩
      have hB1 := hB0.keep hb1
      have ⟨d0, d1, d2, p0, p1, p2, p3, p4, e0, e1, e2, e3, e4, ff⟩ := hB1
      go_wp2_with fail
      clear d0 d1 d2 p0 p1 p2 p3 p4 e0 e1 e2 e3 e4 ff
      refine (c_l4Good k nu tr le d hd hp _).mono ?_
      rintro e w2 ⟨rfl, hb2⟩
      have hk2 := (hk0.trans hb1).trans hb2
      obtain ⟨d0, d1, d2, p0, p1, p2, p3, p4, e0, e1, e2, e3, e4, ff⟩ := hB1.keep hb2
      clear hB0 hB1
      go_wp2_with fail
      have hkE := hk2
      rw [HR.out.1, HR.out.2]
      refine bodyPost_ret (v := .tuple #[.agg #[.int .i64 0, .int .i64 0, .int .i64 0, .int .i64 0, .string ⟨#[]⟩], .bool false]) (by simp [results, Tryd.results26, go_sem, e0, e1, e2, e3, e4]) rfl ⟨rfl, ?_⟩
      (repeat (first | with_reducible assumption | exact Bw.refl _ | (with_reducible refine Bw.setCell ?_ (by dsimp only; omega) _) | (with_reducible refine Bw.alloc ?_ _) | (with_reducible refine Bw.drew ?_) | (with_reducible refine Bw.drewN ?_ _)))
    · have hnu : inR nu 0 65535 = true := by have := hp; simp only [pkB, Bool.and_eq_true] at this; exact this.2.1
      have ⟨x0, x1⟩ := inR_iff.1 hnu
      cases hk3 : (k == 3)
      · have HR := Lib.hid (show v = .agg #[.int .i64 0, .int .i64 0, .int .i64 0, .int .i64 0, .string ⟨#[]⟩] ∧ r = false by rw [← hv, ← hr]; simp only [ansV, ansC, hk3, Bool.false_and, Bool.and_false, if_false, Bool.false_eq_true, and_self])
        clear hv hr
        go_enter Tryd.func26, Tryd.ntmps26
        go_wp2_with fail
        refine (c_l9Good t z _ _ _ ss hf hg _ hn (h.keep hk0)).mono ?_
        rintro e w1 ⟨rfl, hb1⟩
        have hB1 := hB0.keep hb1
        have ⟨d0, d1, d2, p0, p1, p2, p3, p4, e0, e1, e2, e3, e4, ff⟩ := hB1
        go_wp2_with fail
        clear d0 d1 d2 p0 p1 p2 p3 p4 e0 e1 e2 e3 e4 ff
        refine (c_l4Good k nu tr le d hd hp _).mono ?_
        rintro e w2 ⟨rfl, hb2⟩
        have hk2 := (hk0.trans hb1).trans hb2
        obtain ⟨d0, d1, d2, p0, p1, p2, p3, p4, e0, e1, e2, e3, e4, ff⟩ := hB1.keep hb2
        clear hB0 hB1
        have hk3n : (k != 3) = true := by simp [bne, hk3]
        go_wp2_with fail
        have hkE := hk2
        rw [HR.out.1, HR.out.2]
        refine bodyPost_ret (v := .tuple #[.agg #[.int .i64 0, .int .i64 0, .int .i64 0, .int .i64 0, .string ⟨#[]⟩], .bool false]) (by simp [results, Tryd.results26, go_sem, e0, e1, e2, e3, e4]) rfl ⟨rfl, ?_⟩
        (repeat (first | with_reducible assumption | exact Bw.refl _ | (with_reducible refine Bw.setCell ?_ (by dsimp only; omega) _) | (with_reducible refine Bw.alloc ?_ _) | (with_reducible refine Bw.drew ?_) | (with_reducible refine Bw.drewN ?_ _)))
      · have hk3n : (k != 3) = false := by simp [bne, hk3]
        cases hh : heldB t n nu
        · have HR := Lib.hid (show v = .agg #[.int .i64 0, .int .i64 0, .int .i64 0, .int .i64 0, .string ⟨#[]⟩] ∧ r = false by rw [← hv, ← hr]; simp only [ansV, ansC, hl.out, hh, Bool.and_false, if_false, Bool.false_eq_true, and_self])
          clear hv hr
          go_enter Tryd.func26, Tryd.ntmps26
          go_wp2_with fail
          refine (c_l9Good t z _ _ _ ss hf hg _ hn (h.keep hk0)).mono ?_
          rintro e w1 ⟨rfl, hb1⟩
          have hB1 := hB0.keep hb1
          have ⟨d0, d1, d2, p0, p1, p2, p3, p4, e0, e1, e2, e3, e4, ff⟩ := hB1
          go_wp2_with fail
          clear d0 d1 d2 p0 p1 p2 p3 p4 e0 e1 e2 e3 e4 ff
          refine (c_l4Good k nu tr le d hd hp _).mono ?_
          rintro e w2 ⟨rfl, hb2⟩
          have hB2 := hB1.keep hb2
          have ⟨d0, d1, d2, p0, p1, p2, p3, p4, e0, e1, e2, e3, e4, ff⟩ := hB2
          go_wp2_with fail
          clear d0 d1 d2 p0 p1 p2 p3 p4 e0 e1 e2 e3 e4 ff
          refine (c_l9Held t z _ _ _ nu hh t0 t1 x0 x1 hn _).mono ?_
          rintro e w3 ⟨rfl, hb3⟩
          have hk3' := ((hk0.trans hb1).trans hb2).trans hb3
          obtain ⟨d0, d1, d2, p0, p1, p2, p3, p4, e0, e1, e2, e3, e4, ff⟩ := hB2.keep hb3
          clear hB0 hB1 hB2
          go_wp2_with fail
          have hkE := hk3'
          rw [HR.out.1, HR.out.2]
          refine bodyPost_ret (v := .tuple #[.agg #[.int .i64 0, .int .i64 0, .int .i64 0, .int .i64 0, .string ⟨#[]⟩], .bool false]) (by simp [results, Tryd.results26, go_sem, e0, e1, e2, e3, e4]) rfl ⟨rfl, ?_⟩
          (repeat (first | with_reducible assumption | exact Bw.refl _ | (with_reducible refine Bw.setCell ?_ (by dsimp only; omega) _) | (with_reducible refine Bw.alloc ?_ _) | (with_reducible refine Bw.drew ?_) | (with_reducible refine Bw.drewN ?_ _)))
        · obtain ⟨q, hq⟩ := Int.eq_ofNat_of_zero_le (gapI_bd t nu).1
          have hqn : q < n := by have h5 := hh; simp only [heldB, hq, decide_eq_true_eq] at h5; exact_mod_cast h5
          have HQ := Lib.hid hq
          have HR := Lib.hid (show v = .agg #[.int .i64 2, .int .i64 nu, .int .i64 t, .int .i64 (aftI t n), .string (strAt ss q)] ∧ r = true by rw [← hv, ← hr]; simp only [ansV, ansC, hl.out, hh, hg, hp, hk3, hq, Bool.true_and, if_true, Int.toNat_natCast, and_self])
          clear hv hr hq
          obtain ⟨b, off, rfl, hb, hc⟩ := h.strs (by omega)
          have hs0 := hc q hqn
          clear hc
          go_enter Tryd.func26, Tryd.ntmps26
          go_wp2_with fail
          refine (c_l9Good t z _ _ _ ss hf hg _ hn (h.keep hk0)).mono ?_
          rintro e w1 ⟨rfl, hb1⟩
          have hB1 := hB0.keep hb1
          have ⟨d0, d1, d2, p0, p1, p2, p3, p4, e0, e1, e2, e3, e4, ff⟩ := hB1
          go_wp2_with fail
          clear d0 d1 d2 p0 p1 p2 p3 p4 e0 e1 e2 e3 e4 ff
          refine (c_l4Good k nu tr le d hd hp _).mono ?_
          rintro e w2 ⟨rfl, hb2⟩
          have hB2 := hB1.keep hb2
          have ⟨d0, d1, d2, p0, p1, p2, p3, p4, e0, e1, e2, e3, e4, ff⟩ := hB2
          go_wp2_with fail
          clear d0 d1 d2 p0 p1 p2 p3 p4 e0 e1 e2 e3 e4 ff
          refine (c_l9Held t z _ _ _ nu hh t0 t1 x0 x1 hn _).mono ?_
          rintro e w3 ⟨rfl, hb3⟩
          have hk3' := ((hk0.trans hb1).trans hb2).trans hb3
          have hB3 := hB2.keep hb3
          have hs3 := hk3'.cellv hs0
          have ⟨d0, d1, d2, p0, p1, p2, p3, p4, e0, e1, e2, e3, e4, ff⟩ := hB3
          have l0 := World.block_lt_of_cell? w3 _ d0
          have l1 := World.block_lt_of_cell? w3 _ p0
          have l2 := World.block_lt_of_cell? w3 _ e0
          have l3 := World.block_lt_of_cell? w3 _ hs3
          simp only at l0 l1 l2 l3
          go_wp2_with fail
          refine wp_region_ext_tail 16 (by kernel_rfl) (by kernel_rfl) ?_
          simp only [List.take_succ_cons, List.take_zero, List.drop_succ_cons, List.drop_zero]
          (repeat (go_big_quiet_step (first | (go_at_call 55; exact Ext.calls (c_l9Lead t z _ _ _ rfl t0 t1 hn6 _)) | (go_at_call 59; exact Ext.same (c_l2Gap _ _ HQ.out t0 t1 x0 x1 _)))))
          (with_reducible refine wpQuiet_nil ?_)
          intro w4 hb4
          clear d0 d1 d2 p0 p1 p2 p3 p4 e0 e1 e2 e3 e4 ff
          obtain ⟨d0, d1, d2, p0, p1, p2, p3, p4, e0, e1, e2, e3, e4, ff⟩ := hB3.keep hb4
          have hkE := hk3'.trans hb4
          clear hB0 hB1 hB2 hB3
          go_wp2_with fail
          rw [HR.out.1, HR.out.2]
          refine bodyPost_ret (v := .tuple #[.agg #[.int .i64 2, .int .i64 nu, .int .i64 t, .int .i64 (aftI t n), .string (strAt ss q)], .bool true]) (by simp [results, Tryd.results26, go_sem, e0, e1, e2, e3, e4]) rfl ⟨rfl, ?_⟩
          (repeat (first | with_reducible assumption | exact Bw.refl _ | (with_reducible refine Bw.setCell ?_ (by dsimp only; omega) _) | (with_reducible refine Bw.alloc ?_ _) | (with_reducible refine Bw.drew ?_) | (with_reducible refine Bw.drewN ?_ _)))
set_option maxRecDepth 100000 in
set_option maxHeartbeats 2000000 in
theorem c_iAnswerTo (t z : Int) (A : Option Addr) (n c : Nat) (ss : List ByteArray) (hf : fitS ss) (k nu tr le : Int) (d : ByteArray) (hd : d.size ≤ maxLen) {v : Value} (hv : ansV t z ss k nu tr le d = v) {r : Bool} (hr : ansC t z ss k nu tr le d = r) (w : World) (hn : n ≤ 9223372036854775807) (h : Rd w A n 1 (ss.map scell)) :
    Calls Tryd.prog 28 #[.agg #[.int .i64 t, .int .i64 z, .slice A n c], .agg #[.int .i64 k, .int .i64 nu, .int .i64 tr, .int .i64 le, .string d]] w fun e w' => e = .returned (.tuple #[v, .bool r]) ∧ Bw w w' := by
  have hl := Lib.hid h.slen
  have hk0 : Bw w (((w.alloc (.cells #[.int .i64 t, .int .i64 z, .slice A n c] 27)).alloc (.cells #[.int .i64 k, .int .i64 nu, .int .i64 tr, .int .i64 le, .string d] 37)).alloc (.cells #[.int .i64 0, .int .i64 0, .int .i64 0, .int .i64 0, .string ⟨#[]⟩] 37)) := by (repeat (first | with_reducible assumption | exact Bw.refl _ | (with_reducible refine Bw.setCell ?_ (by simp) _) | (with_reducible refine Bw.alloc ?_ _) | (with_reducible refine Bw.drew ?_) | (with_reducible refine Bw.drewN ?_ _)))
  have hB0 : AnsBox w.heap.size t z A n c k nu tr le d (((w.alloc (.cells #[.int .i64 t, .int .i64 z, .slice A n c] 27)).alloc (.cells #[.int .i64 k, .int .i64 nu, .int .i64 tr, .int .i64 le, .string d] 37)).alloc (.cells #[.int .i64 0, .int .i64 0, .int .i64 0, .int .i64 0, .string ⟨#[]⟩] 37)) := by constructor <;> go_simp
  cases hg : swB t z ss
  · have HR := Lib.hid (show v = .agg #[.int .i64 0, .int .i64 0, .int .i64 0, .int .i64 0, .string ⟨#[]⟩] ∧ r = false by rw [← hv, ← hr]; simp [ansV, ansC, hg])
    clear hv hr
    go_enter Tryd.func28, Tryd.ntmps28
    go_wp2_with fail
    refine (c_IsValidSendWindow t z _ _ _ ss hf hg _ hn (h.keep hk0)).mono ?_
    rintro e w1 ⟨rfl, hb1⟩
    have hk1 := hk0.trans hb1
    obtain ⟨d0, d1, d2, p0, p1, p2, p3, p4, e0, e1, e2, e3, e4, ff⟩ := hB0.keep hb1
    clear hB0
    go_wp2_with fail
    have hkE := hk1
    rw [HR.out.1, HR.out.2]
    refine bodyPost_ret (v := .tuple #[.agg #[.int .i64 0, .int .i64 0, .int .i64 0, .int .i64 0, .string ⟨#[]⟩], .bool false]) (by simp [results, Tryd.results28, go_sem, e0, e1, e2, e3, e4]) rfl ⟨rfl, ?_⟩
    (repeat (first | with_reducible assumption | exact Bw.refl _ | (with_reducible refine Bw.setCell ?_ (by dsimp only; omega) _) | (with_reducible refine Bw.alloc ?_ _) | (with_reducible refine Bw.drew ?_) | (with_reducible refine Bw.drewN ?_ _)))
  · obtain ⟨g1, g2, g3, g4⟩ := swB_iff.1 hg
    have ⟨t0, t1⟩ := inR_iff.1 g1
    have ⟨z0, z1⟩ := inR_iff.1 g2
    have hn6 : n ≤ 6 := by have := hl.out; omega
    clear g1 g2 g3 g4
    cases hp : pkB k nu tr le d
    · have HR := Lib.hid (show v = .agg #[.int .i64 0, .int .i64 0, .int .i64 0, .int .i64 0, .string ⟨#[]⟩] ∧ r = false by rw [← hv, ← hr]; simp [ansV, ansC, hp])
      clear hv hr
      go_enter Tryd.func28, Tryd.ntmps28
      go_wp2_with fail
      refine (c_IsValidSendWindow t z _ _ _ ss hf hg _ hn (h.keep hk0)).mono ?_
      rintro e w1 ⟨rfl, hb1⟩
      have hB1 := hB0.keep hb1
      have ⟨d0, d1, d2, p0, p1, p2, p3, p4, e0, e1, e2, e3, e4, ff⟩ := hB1
      go_wp2_with fail
      clear d0 d1 d2 p0 p1 p2 p3 p4 e0 e1 e2 e3 e4 ff
      refine (c_IsValidPacket k nu tr le d hd hp _).mono ?_
      rintro e w2 ⟨rfl, hb2⟩
      have hk2 := (hk0.trans hb1).trans hb2
      obtain ⟨d0, d1, d2, p0, p1, p2, p3, p4, e0, e1, e2, e3, e4, ff⟩ := hB1.keep hb2
      clear hB0 hB1
      go_wp2_with fail
      have hkE := hk2
      rw [HR.out.1, HR.out.2]
      refine bodyPost_ret (v := .tuple #[.agg #[.int .i64 0, .int .i64 0, .int .i64 0, .int .i64 0, .string ⟨#[]⟩], .bool false]) (by simp [results, Tryd.results28, go_sem, e0, e1, e2, e3, e4]) rfl ⟨rfl, ?_⟩
      (repeat (first | with_reducible assumption | exact Bw.refl _ | (with_reducible refine Bw.setCell ?_ (by dsimp only; omega) _) | (with_reducible refine Bw.alloc ?_ _) | (with_reducible refine Bw.drew ?_) | (with_reducible refine Bw.drewN ?_ _)))
    · have hnu : inR nu 0 65535 = true := by have := hp; simp only [pkB, Bool.and_eq_true] at this; exact this.2.1
      have ⟨x0, x1⟩ := inR_iff.1 hnu
      cases hk3 : (k == 3)
      · have HR := Lib.hid (show v = .agg #[.int .i64 0, .int .i64 0, .int .i64 0, .int .i64 0, .string ⟨#[]⟩] ∧ r = false by rw [← hv, ← hr]; simp only [ansV, ansC, hk3, Bool.false_and, Bool.and_false, if_false, Bool.false_eq_true, and_self])
        clear hv hr
        go_enter Tryd.func28, Tryd.ntmps28
        go_wp2_with fail
        refine (c_IsValidSendWindow t z _ _ _ ss hf hg _ hn (h.keep hk0)).mono ?_
        rintro e w1 ⟨rfl, hb1⟩
        have hB1 := hB0.keep hb1
        have ⟨d0, d1, d2, p0, p1, p2, p3, p4, e0, e1, e2, e3, e4, ff⟩ := hB1
        go_wp2_with fail
        clear d0 d1 d2 p0 p1 p2 p3 p4 e0 e1 e2 e3 e4 ff
        refine (c_IsValidPacket k nu tr le d hd hp _).mono ?_
        rintro e w2 ⟨rfl, hb2⟩
        have hk2 := (hk0.trans hb1).trans hb2
        obtain ⟨d0, d1, d2, p0, p1, p2, p3, p4, e0, e1, e2, e3, e4, ff⟩ := hB1.keep hb2
        clear hB0 hB1
        have hk3n : (k != 3) = true := by simp [bne, hk3]
        go_wp2_with fail
        have hkE := hk2
        rw [HR.out.1, HR.out.2]
        refine bodyPost_ret (v := .tuple #[.agg #[.int .i64 0, .int .i64 0, .int .i64 0, .int .i64 0, .string ⟨#[]⟩], .bool false]) (by simp [results, Tryd.results28, go_sem, e0, e1, e2, e3, e4]) rfl ⟨rfl, ?_⟩
        (repeat (first | with_reducible assumption | exact Bw.refl _ | (with_reducible refine Bw.setCell ?_ (by dsimp only; omega) _) | (with_reducible refine Bw.alloc ?_ _) | (with_reducible refine Bw.drew ?_) | (with_reducible refine Bw.drewN ?_ _)))
      · have hk3n : (k != 3) = false := by simp [bne, hk3]
        cases hh : heldB t n nu
        · have HR := Lib.hid (show v = .agg #[.int .i64 0, .int .i64 0, .int .i64 0, .int .i64 0, .string ⟨#[]⟩] ∧ r = false by rw [← hv, ← hr]; simp only [ansV, ansC, hl.out, hh, Bool.and_false, if_false, Bool.false_eq_true, and_self])
          clear hv hr
          go_enter Tryd.func28, Tryd.ntmps28
          go_wp2_with fail
          refine (c_IsValidSendWindow t z _ _ _ ss hf hg _ hn (h.keep hk0)).mono ?_
          rintro e w1 ⟨rfl, hb1⟩
          have hB1 := hB0.keep hb1
          have ⟨d0, d1, d2, p0, p1, p2, p3, p4, e0, e1, e2, e3, e4, ff⟩ := hB1
          go_wp2_with fail
          clear d0 d1 d2 p0 p1 p2 p3 p4 e0 e1 e2 e3 e4 ff
          refine (c_IsValidPacket k nu tr le d hd hp _).mono ?_
          rintro e w2 ⟨rfl, hb2⟩
          have hB2 := hB1.keep hb2
          have ⟨d0, d1, d2, p0, p1, p2, p3, p4, e0, e1, e2, e3, e4, ff⟩ := hB2
          go_wp2_with fail
          clear d0 d1 d2 p0 p1 p2 p3 p4 e0 e1 e2 e3 e4 ff
          refine (c_isHeld t z _ _ _ nu hh t0 t1 x0 x1 hn _).mono ?_
          rintro e w3 ⟨rfl, hb3⟩
          have hk3' := ((hk0.trans hb1).trans hb2).trans hb3
          obtain ⟨d0, d1, d2, p0, p1, p2, p3, p4, e0, e1, e2, e3, e4, ff⟩ := hB2.keep hb3
          clear hB0 hB1 hB2
          go_wp2_with fail
          have hkE := hk3'
          rw [HR.out.1, HR.out.2]
          refine bodyPost_ret (v := .tuple #[.agg #[.int .i64 0, .int .i64 0, .int .i64 0, .int .i64 0, .string ⟨#[]⟩], .bool false]) (by simp [results, Tryd.results28, go_sem, e0, e1, e2, e3, e4]) rfl ⟨rfl, ?_⟩
          (repeat (first | with_reducible assumption | exact Bw.refl _ | (with_reducible refine Bw.setCell ?_ (by dsimp only; omega) _) | (with_reducible refine Bw.alloc ?_ _) | (with_reducible refine Bw.drew ?_) | (with_reducible refine Bw.drewN ?_ _)))
        · obtain ⟨q, hq⟩ := Int.eq_ofNat_of_zero_le (gapI_bd t nu).1
          have hqn : q < n := by have h5 := hh; simp only [heldB, hq, decide_eq_true_eq] at h5; exact_mod_cast h5
          have HQ := Lib.hid hq
          have HR := Lib.hid (show v = .agg #[.int .i64 2, .int .i64 nu, .int .i64 t, .int .i64 (aftI t n), .string (strAt ss q)] ∧ r = true by rw [← hv, ← hr]; simp only [ansV, ansC, hl.out, hh, hg, hp, hk3, hq, Bool.true_and, if_true, Int.toNat_natCast, and_self])
          clear hv hr hq
          obtain ⟨b, off, rfl, hb, hc⟩ := h.strs (by omega)
          have hs0 := hc q hqn
          clear hc
          go_enter Tryd.func28, Tryd.ntmps28
          go_wp2_with fail
          refine (c_IsValidSendWindow t z _ _ _ ss hf hg _ hn (h.keep hk0)).mono ?_
          rintro e w1 ⟨rfl, hb1⟩
          have hB1 := hB0.keep hb1
          have ⟨d0, d1, d2, p0, p1, p2, p3, p4, e0, e1, e2, e3, e4, ff⟩ := hB1
          go_wp2_with fail
          clear d0 d1 d2 p0 p1 p2 p3 p4 e0 e1 e2 e3 e4 ff
          refine (c_IsValidPacket k nu tr le d hd hp _).mono ?_
          rintro e w2 ⟨rfl, hb2⟩
          have hB2 := hB1.keep hb2
          have ⟨d0, d1, d2, p0, p1, p2, p3, p4, e0, e1, e2, e3, e4, ff⟩ := hB2
          go_wp2_with fail
          clear d0 d1 d2 p0 p1 p2 p3 p4 e0 e1 e2 e3 e4 ff
          refine (c_isHeld t z _ _ _ nu hh t0 t1 x0 x1 hn _).mono ?_
          rintro e w3 ⟨rfl, hb3⟩
          have hk3' := ((hk0.trans hb1).trans hb2).trans hb3
          have hB3 := hB2.keep hb3
          have hs3 := hk3'.cellv hs0
          have ⟨d0, d1, d2, p0, p1, p2, p3, p4, e0, e1, e2, e3, e4, ff⟩ := hB3
          have l0 := World.block_lt_of_cell? w3 _ d0
          have l1 := World.block_lt_of_cell? w3 _ p0
          have l2 := World.block_lt_of_cell? w3 _ e0
          have l3 := World.block_lt_of_cell? w3 _ hs3
          simp only at l0 l1 l2 l3
          go_wp2_with fail
          refine wp_region_ext_tail 16 (by kernel_rfl) (by kernel_rfl) ?_
          simp only [List.take_succ_cons, List.take_zero, List.drop_succ_cons, List.drop_zero]
          (repeat (go_big_quiet_step (first | (go_at_call 56; exact Ext.calls (c_lead t z _ _ _ rfl t0 t1 hn6 _)) | (go_at_call 61; exact Ext.same (c_gap _ _ HQ.out t0 t1 x0 x1 _)))))
          (with_reducible refine wpQuiet_nil ?_)
          intro w4 hb4
          clear d0 d1 d2 p0 p1 p2 p3 p4 e0 e1 e2 e3 e4 ff
          obtain ⟨d0, d1, d2, p0, p1, p2, p3, p4, e0, e1, e2, e3, e4, ff⟩ := hB3.keep hb4
          have hkE := hk3'.trans hb4
          clear hB0 hB1 hB2 hB3
          go_wp2_with fail
          rw [HR.out.1, HR.out.2]
          refine bodyPost_ret (v := .tuple #[.agg #[.int .i64 2, .int .i64 nu, .int .i64 t, .int .i64 (aftI t n), .string (strAt ss q)], .bool true]) (by simp [results, Tryd.results28, go_sem, e0, e1, e2, e3, e4]) rfl ⟨rfl, ?_⟩
          (repeat (first | with_reducible assumption | exact Bw.refl _ | (with_reducible refine Bw.setCell ?_ (by dsimp only; omega) _) | (with_reducible refine Bw.alloc ?_ _) | (with_reducible refine Bw.drew ?_) | (with_reducible refine Bw.drewN ?_ _)))
end Go.Proofs.YthdmnngmijbcbaaDoor
