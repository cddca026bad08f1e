
/- Elements: both sides of IsValidElement and OldestEntry. -/
import Derived.Test.YtajfmfeegiicaaaE5
namespace Go.Proofs.Ytajfmfeegiicaaa
open Go.RowKit
theorem c_sIsValidElement (ck : Int) (A : Option Addr) (n c : Nat) (es : List Ev) (ts : List Ent) {r : Bool} (hr : elB ck es = r) (w : World) (hm : n ≤ 9223372036854775807) (h : RdE w A n es ts) :
    Calls Try.prog 7 #[.agg #[.int .i64 ck, .slice A n c]] w fun e w' => e = .returned (.bool r) ∧ Bw w w' := by
  have hbx : Bw w (w.alloc (.cells #[.int .i64 ck, .slice A n c] 29)) := Bw.alloc (Bw.refl _) _
  go_enter Try.func7, Try.ntmps7
  go_wp2_with (go_at_call 20; refine (c_l14Good ck _ _ _ es ts hr _ hm (by first | exact h | exact h.keep hbx)).mono ?_; rintro e w1 ⟨rfl, hb1⟩)
  go_ret
  first | exact ⟨rfl, hb1⟩ | exact ⟨rfl, hbx.trans hb1⟩
def oldC (ck : Int) (es : List Ev) : Bool := elB ck es && !decide (es.length = 0)
def oldN (ck : Int) (es : List Ev) : Int := if oldC ck es = true then (evAt es 0).num else 0
def oldU (ck : Int) (es : List Ev) : Int := if oldC ck es = true then (evAt es 0).unt - ck else 0
theorem c_sOldestEntry (ck : Int) (A : Option Addr) (n c : Nat) (es : List Ev) (ts : List Ent) (w : World) (hm : n ≤ 9223372036854775807) (h : RdE w A n es ts) :
    Calls Try.prog 11 #[.agg #[.int .i64 ck, .slice A n c]] w fun e w' => e = .returned (.tuple #[.int .i64 (oldN ck es), .int .i64 (oldU ck es), .bool (oldC ck es)]) ∧ Bw w w' := by
  have hl := Lib.hid h.len
  have hbx : Bw w (w.alloc (.cells #[.int .i64 ck, .slice A n c] 29)) := Bw.alloc (Bw.refl _) _
  cases hg : elB ck es
  · have HR := Lib.hid (show oldC ck es = false by simp [oldC, hg])
    rw [oldN, oldU, HR.out]
    simp only [Bool.false_eq_true, if_false]
    go_enter Try.func11, Try.ntmps11
    go_wp2_with (go_at_call 20; refine (c_l14Good ck _ _ _ es ts hg _ hm (h.keep hbx)).mono ?_; rintro e w1 ⟨rfl, hb1⟩)
    go_ret3
    exact ⟨rfl, hbx.trans hb1⟩
  · by_cases hn : n = 0
    · have HR := Lib.hid (show oldC ck es = false by simp [oldC, hl.out, hn])
      rw [oldN, oldU, HR.out]
      simp only [Bool.false_eq_true, if_false]
      subst hn
      go_enter Try.func11, Try.ntmps11
      go_wp2_with (go_at_call 20; refine (c_l14Good ck _ _ _ es ts hg _ hm (h.keep hbx)).mono ?_; rintro e w1 ⟨rfl, hb1⟩; have d1 := hb1.cellv (p := ⟨w.heap.size, 1, none⟩) (v := .slice A 0 c) (by go_simp))
      go_ret3
      exact ⟨rfl, hbx.trans hb1⟩
    · have HR := Lib.hid (show oldC ck es = true by simp [oldC, hl.out, hn, hg])
      rw [oldN, oldU, HR.out]
      simp only [if_true]
      have hn0 : ((n : Int) == 0) = false := by simpa using hn
      have HG := Lib.hid (elB_iff.1 hg)
      have hck := inR_iff.1 HG.out.1
      have ho := HG.out.2.2 0 (by rw [hl.out]; omega)
      have hu : ck + 1 ≤ (evAt es 0).unt ∧ (evAt es 0).unt ≤ ck + 6 := by
        simp only [oneE, Bool.and_eq_true] at ho
        exact inR_iff.1 ho.2.2.2.1
      clear ho
      obtain ⟨b, off, rfl, hb, hc⟩ := (h.keep hbx).at_ (by omega)
      have ⟨q0, q1, q2⟩ := hc 0 (by omega)
      simp only [Nat.zero_mul, Nat.add_zero] at q0 q1 q2
      clear hc
      go_enter Try.func11, Try.ntmps11
      go_wp2_with (go_at_call 20; refine (c_l14Good ck _ _ _ es ts hg _ hm (h.keep hbx)).mono ?_; rintro e w1 ⟨rfl, hb1⟩; have d0 := hb1.cellv (p := ⟨w.heap.size, 0, none⟩) (v := .int .i64 ck) (by go_simp); have d1 := hb1.cellv (p := ⟨w.heap.size, 1, none⟩) (v := .slice (some ⟨b, off, none⟩) n c) (by go_simp); have p0 := hb1.cellv q0; have p2 := hb1.cellv q2; have z0 := World.block_lt_of_cell? _ _ d0; have z1 := World.block_lt_of_cell? _ _ p0; dsimp only at z0 z1)
      (refine wp_region_ext (by kernel_rfl) (by kernel_rfl) ?_; (repeat (go_big_quiet_step (fail))); (with_reducible refine wpQuiet_nil ?_); intro w2 hb2)
      go_wp2
      go_ret3
      exact ⟨rfl, (hbx.trans hb1).trans hb2⟩
theorem c_iOldestEntry (ck : Int) (A : Option Addr) (n c : Nat) (es : List Ev) (ts : List Ent) (w : World) (hm : n ≤ 9223372036854775807) (hcap : n ≤ c) (h : RdE w A n es ts) :
    Calls Try.prog 12 #[.agg #[.int .i64 ck, .slice A n c]] w fun e w' => e = .returned (.tuple #[.int .i64 (oldN ck es), .int .i64 (oldU ck es), .bool (oldC ck es)]) ∧ Bw w w' := by
  have hl := Lib.hid h.len
  have hbx : Bw w (w.alloc (.cells #[.int .i64 ck, .slice A n c] 29)) := Bw.alloc (Bw.refl _) _
  cases hg : elB ck es
  · have HR := Lib.hid (show oldC ck es = false by simp [oldC, hg])
    rw [oldN, oldU, HR.out]
    simp only [Bool.false_eq_true, if_false]
    go_enter Try.func12, Try.ntmps12
    go_wp2_with (go_at_call 9; refine (c_IsValidElement ck _ _ _ es ts hg _ hm hcap (h.keep hbx)).mono ?_; rintro e w1 ⟨rfl, hb1⟩)
    go_ret3
    exact ⟨rfl, hbx.trans hb1⟩
  · by_cases hn : n = 0
    · have HR := Lib.hid (show oldC ck es = false by simp [oldC, hl.out, hn])
      rw [oldN, oldU, HR.out]
      simp only [Bool.false_eq_true, if_false]
      subst hn
      go_enter Try.func12, Try.ntmps12
      go_wp2_with (go_at_call 9; refine (c_IsValidElement ck _ _ _ es ts hg _ hm hcap (h.keep hbx)).mono ?_; rintro e w1 ⟨rfl, hb1⟩; have d1 := hb1.cellv (p := ⟨w.heap.size, 1, none⟩) (v := .slice A 0 c) (by go_simp))
      go_ret3
      exact ⟨rfl, hbx.trans hb1⟩
    · have HR := Lib.hid (show oldC ck es = true by simp [oldC, hl.out, hn, hg])
      rw [oldN, oldU, HR.out]
      simp only [if_true]
      have hn0 : ((n : Int) == 0) = false := by simpa using hn
      have HG := Lib.hid (elB_iff.1 hg)
      have hck := inR_iff.1 HG.out.1
      have ho := HG.out.2.2 0 (by rw [hl.out]; omega)
      have hu : ck + 1 ≤ (evAt es 0).unt ∧ (evAt es 0).unt ≤ ck + 6 := by
        simp only [oneE, Bool.and_eq_true] at ho
        exact inR_iff.1 ho.2.2.2.1
      clear ho
      obtain ⟨b, off, rfl, hb, hc⟩ := (h.keep hbx).at_ (by omega)
      have ⟨q0, q1, q2⟩ := hc 0 (by omega)
      simp only [Nat.zero_mul, Nat.add_zero] at q0 q1 q2
      clear hc
      go_enter Try.func12, Try.ntmps12
      go_wp2_with (go_at_call 9; refine (c_IsValidElement ck _ _ _ es ts hg _ hm hcap (h.keep hbx)).mono ?_; rintro e w1 ⟨rfl, hb1⟩; have d0 := hb1.cellv (p := ⟨w.heap.size, 0, none⟩) (v := .int .i64 ck) (by go_simp); have d1 := hb1.cellv (p := ⟨w.heap.size, 1, none⟩) (v := .slice (some ⟨b, off, none⟩) n c) (by go_simp); have p0 := hb1.cellv q0; have p2 := hb1.cellv q2; have z0 := World.block_lt_of_cell? _ _ d0; have z1 := World.block_lt_of_cell? _ _ p0; dsimp only at z0 z1)
      (refine wp_region_ext (by kernel_rfl) (by kernel_rfl) ?_; (repeat (go_big_quiet_step (fail))); (with_reducible refine wpQuiet_nil ?_); intro w2 hb2)
      go_wp2
      go_ret3
      exact ⟨rfl, (hbx.trans hb1).trans hb2⟩
end Go.Proofs.Ytajfmfeegiicaaa
