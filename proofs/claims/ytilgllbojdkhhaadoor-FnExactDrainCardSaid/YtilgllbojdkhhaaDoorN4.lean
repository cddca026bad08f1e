
/- Links: the next fate. -/
import Derived.Test.YtilgllbojdkhhaaDoorN3
namespace Go.Proofs.YtilgllbojdkhhaaDoor
open Go.RowKit Go.ChangeShapes Go.WideShapes Go.ChangeAt Go.Joins Go.Deep
def nextI (f : ByteArray) (u : Int) : Int := if u = f.size then 107 else ((f.data.toList.getD u.toNat 0).toNat : Int)
def fateR (ss : List ByteArray) (f : ByteArray) (u : Int) : Int := if lkB ss f u = true then nextI f u else 0
theorem nextI_at {f : ByteArray} {k : Nat} (h : k < f.size) : nextI f k = (f[k].toNat : Int) := by
  rw [nextI, if_neg (by omega)]
  have h1 : k < f.data.toList.length := by simpa using h
  rw [Int.toNat_natCast, List.getD_eq_getElem?_getD, List.getElem?_eq_getElem h1]
  rfl
set_option maxRecDepth 100000 in
theorem c_l7Next (A : Option Addr) (n c : Nat) (f : ByteArray) (hfs : f.size ≤ 40) (u : Int) (u0 : 0 ≤ u) (u1 : u ≤ f.size) (w : World) :
    Calls Tryd.prog 41 #[.agg #[.slice A n c, .string f, .int .i64 u]] w fun e w' => e = .returned (.int .u8 (nextI f u)) ∧ Bw w w' := by
  obtain ⟨k, rfl⟩ := Int.eq_ofNat_of_zero_le u0
  by_cases hk : k < f.size
  · have HE := Lib.hid (nextI_at hk)
    go_enter Tryd.func41, Tryd.ntmps41
    go_wp2
    go_ret
    rw [HE.out]
    exact ⟨rfl, by (repeat (first | with_reducible assumption | exact Bw.refl _ | (with_reducible refine Bw.setCell ?_ (by simp) _) | (with_reducible refine Bw.alloc ?_ _) | (with_reducible refine Bw.drew ?_) | (with_reducible refine Bw.drewN ?_ _)))⟩
  · obtain rfl : k = f.size := by omega
    have HE := Lib.hid (show nextI f f.size = 107 by simp [nextI])
    rw [HE.out]
    go_enter Tryd.func41, Tryd.ntmps41
    go_wp2
    go_ret
    exact ⟨rfl, by (repeat (first | with_reducible assumption | exact Bw.refl _ | (with_reducible refine Bw.setCell ?_ (by simp) _) | (with_reducible refine Bw.alloc ?_ _) | (with_reducible refine Bw.drew ?_) | (with_reducible refine Bw.drewN ?_ _)))⟩
set_option maxRecDepth 100000 in
theorem c_fate (q : Nat) (f : ByteArray) (hfs : f.size ≤ 40) (u : Int) (u0 : 0 ≤ u) (u1 : u ≤ f.size) (w : World) (h1 : w.cell? ⟨q, 1, none⟩ = some (.string f)) (h2 : w.cell? ⟨q, 2, none⟩ = some (.int .i64 u)) :
    Calls Tryd.prog 42 #[.pointer (some ⟨q, 0, none⟩)] w fun e w' => e = .returned (.int .u8 (nextI f u)) ∧ Bw w w' := by
  have hq := World.block_lt_of_cell? w _ h1
  obtain ⟨k, rfl⟩ := Int.eq_ofNat_of_zero_le u0
  by_cases hk : k < f.size
  · have HE := Lib.hid (nextI_at hk)
    have hne : ¬ (k : Int) = f.size := by omega
    go_enter Tryd.func42, Tryd.ntmps42
    go_wp2
    refine wp_region_ext (by kernel_rfl) (by kernel_rfl) ?_
    (repeat (go_big_quiet_step (fail)))
    (with_reducible refine wpQuiet_nil ?_)
    intro w1 hb1
    have g1 := hb1.cellv h1
    have g2 := hb1.cellv h2
    have gq := World.block_lt_of_cell? w1 _ g1
    go_wp2
    refine wp_region_ext (by kernel_rfl) (by kernel_rfl) ?_
    (repeat (go_big_quiet_step (fail)))
    (with_reducible refine wpQuiet_nil ?_)
    intro w2 hb2
    go_wp2
    go_ret
    rw [HE.out]
    exact ⟨rfl, hb1.trans hb2⟩
  · obtain rfl : k = f.size := by omega
    have HE := Lib.hid (show nextI f f.size = 107 by simp [nextI])
    rw [HE.out]
    go_enter Tryd.func42, Tryd.ntmps42
    go_wp2
    refine wp_region_ext (by kernel_rfl) (by kernel_rfl) ?_
    (repeat (go_big_quiet_step (fail)))
    (with_reducible refine wpQuiet_nil ?_)
    intro w1 hb1
    go_wp2
    go_ret
    exact ⟨rfl, hb1⟩
set_option maxRecDepth 100000 in
theorem c_sNextFate (A : Option Addr) (n c : Nat) (ss : List ByteArray) (hf : fitS ss) (f : ByteArray) (hfs : f.size ≤ maxLen) (u : Int) {m : Int} (hm : fateR ss f u = m) {r : Bool} (hr : lkB ss f u = r) (w : World) (hn : n ≤ 9223372036854775807) (h : Rd w A n 1 (ss.map scell)) :
    Calls Tryd.prog 18 #[.agg #[.slice A n c, .string f, .int .i64 u]] w fun e w' => e = .returned (.tuple #[.int .u8 m, .bool r]) ∧ Bw w w' := by
  have hbx : Bw w (w.alloc (.cells #[.slice A n c, .string f, .int .i64 u] 27)) := Bw.alloc (Bw.refl _) _
  subst hm hr
  cases hg : lkB ss f u
  · have HR := Lib.hid (show fateR ss f u = 0 by rw [fateR, hg]; rfl)
    rw [HR.out]
    go_enter Tryd.func18, Tryd.ntmps18
    go_wp2_with (go_at_call 35; refine (c_l7Good _ _ _ ss hf f hfs u hg _ hn (h.keep hbx)).mono ?_; rintro e w1 ⟨rfl, hb1⟩)
    go_ret2
    exact ⟨rfl, hbx.trans hb1⟩
  · obtain ⟨g1, g2, g3, g4, g5⟩ := lkB_iff.1 hg
    have ⟨u0, u1⟩ := inR_iff.1 g5
    have Hg := Lib.hid hg
    have HR := Lib.hid (show fateR ss f u = nextI f u by rw [fateR, hg]; rfl)
    clear g1 g2 g4 g5 hg
    rw [HR.out]
    go_enter Tryd.func18, Tryd.ntmps18
    go_wp2_with (first | (go_at_call 35; refine (c_l7Good _ _ _ ss hf f hfs u Hg.out _ hn (h.keep hbx)).mono ?_; rintro e w1 ⟨rfl, hb1⟩; have d0 := hb1.cellv (p := ⟨w.heap.size, 0, none⟩) (v := .slice A n c) (by go_simp); have d1 := hb1.cellv (p := ⟨w.heap.size, 1, none⟩) (v := .string f) (by go_simp); have d2 := hb1.cellv (p := ⟨w.heap.size, 2, none⟩) (v := .int .i64 u) (by go_simp)) | (go_at_call 41; refine (c_l7Next _ _ _ f g3 u u0 u1 _).mono ?_; rintro e w2 ⟨rfl, hb2⟩))
    go_ret2
    exact ⟨rfl, (hbx.trans hb1).trans hb2⟩
set_option maxRecDepth 100000 in
theorem c_iNextFate (A : Option Addr) (n c : Nat) (ss : List ByteArray) (hf : fitS ss) (f : ByteArray) (hfs : f.size ≤ maxLen) (u : Int) {m : Int} (hm : fateR ss f u = m) {r : Bool} (hr : lkB ss f u = r) (w : World) (hn : n ≤ 9223372036854775807) (h : Rd w A n 1 (ss.map scell)) :
    Calls Tryd.prog 19 #[.agg #[.slice A n c, .string f, .int .i64 u]] w fun e w' => e = .returned (.tuple #[.int .u8 m, .bool r]) ∧ Bw w w' := by
  have hbx : Bw w (w.alloc (.cells #[.slice A n c, .string f, .int .i64 u] 27)) := Bw.alloc (Bw.refl _) _
  subst hm hr
  cases hg : lkB ss f u
  · have HR := Lib.hid (show fateR ss f u = 0 by rw [fateR, hg]; rfl)
    rw [HR.out]
    go_enter Tryd.func19, Tryd.ntmps19
    go_wp2_with (go_at_call 12; refine (c_IsValidLink _ _ _ ss hf f hfs u hg _ hn (h.keep hbx)).mono ?_; rintro e w1 ⟨rfl, hb1⟩)
    go_ret2
    exact ⟨rfl, hbx.trans hb1⟩
  · obtain ⟨g1, g2, g3, g4, g5⟩ := lkB_iff.1 hg
    have ⟨u0, u1⟩ := inR_iff.1 g5
    have Hg := Lib.hid hg
    have HR := Lib.hid (show fateR ss f u = nextI f u by rw [fateR, hg]; rfl)
    clear g1 g2 g4 g5 hg
    rw [HR.out]
    go_enter Tryd.func19, Tryd.ntmps19
    go_wp2_with (first | (go_at_call 12; refine (c_IsValidLink _ _ _ ss hf f hfs u Hg.out _ hn (h.keep hbx)).mono ?_; rintro e w1 ⟨rfl, hb1⟩; have d0 := hb1.cellv (p := ⟨w.heap.size, 0, none⟩) (v := .slice A n c) (by go_simp); have d1 := hb1.cellv (p := ⟨w.heap.size, 1, none⟩) (v := .string f) (by go_simp); have d2 := hb1.cellv (p := ⟨w.heap.size, 2, none⟩) (v := .int .i64 u) (by go_simp)) | (go_at_call 42; refine (c_fate _ f g3 u u0 u1 _ d1 d2).mono ?_; rintro e w2 ⟨rfl, hb2⟩))
    go_ret2
    exact ⟨rfl, (hbx.trans hb1).trans hb2⟩
set_option maxRecDepth 100000 in
theorem open_link {H : Type} {enc : TypeId × Value → H} {w : World} {v : Value} {d : DataW H} {p : List MemPlace} (hv : Value.okWide Tryd.prog w .any 0 24 v) (h : DataW.Trod enc Tryd.prog w 0 (fun _ => true) true 24 v d p) :
    ∃ (A : Option Addr) (n c : Nat) (ss : List ByteArray) (f : ByteArray) (u : Int), v = .agg #[.slice A n c, .string f, .int .i64 u] ∧ n ≤ c ∧ c ≤ maxLen ∧ fitS ss ∧ f.size ≤ maxLen ∧ Rd w A n 1 (ss.map scell) := by
  obtain ⟨c0, c1, c2, y0, y1, y2, m, rfl, _, _, hy0, hy1, hy2⟩ := open_agg3 Tryd.underlying24 (by kernel_rfl) (by kernel_rfl) hv h
  obtain ⟨A, n, c, ss, hA, h1, h2, h3, h4⟩ := trod_strs Tryd.underlying22 (by kernel_rfl) Tryd.underlying9 hy0
  obtain ⟨s, hs, _, hl⟩ := DataW.trod_string Tryd.underlying9 hy1
  obtain ⟨u, hu, _⟩ := DataW.trod_int Tryd.underlying3 hy2
  simp only [List.cons.injEq, and_true] at hs hu
  subst hs hu hA
  exact ⟨A, n, c, ss, s, u, rfl, h1, h2, h3, hl, h4⟩
end Go.Proofs.YtilgllbojdkhhaaDoor
