
/- Links: drained; the program's side. -/
import Derived.Test.YtilgllbojdkhhaaDoorN7
import Derived.Test.YtilgllbojdkhhaaDoorK15
import Derived.Deep.RegionHeld3
namespace Go.Proofs.YtilgllbojdkhhaaDoor
open Go.RowKit Go.Shelf
def drL (ss : List ByteArray) (f : ByteArray) (u : Int) : List ByteArray := if lkB ss f u = true then ss else []
def drF (ss : List ByteArray) (f : ByteArray) (u : Int) : ByteArray := if lkB ss f u = true then f else ⟨#[]⟩
def drU (ss : List ByteArray) (f : ByteArray) (u : Int) : Int := if lkB ss f u = true then u else 0
theorem drL_len (ss : List ByteArray) (f : ByteArray) (u : Int) : (drL ss f u).length ≤ ss.length := by unfold drL; split <;> simp
theorem drF_len (ss : List ByteArray) (f : ByteArray) (u : Int) (hf : f.size ≤ maxLen) : (drF ss f u).size ≤ maxLen := by unfold drF; split; exact hf; decide
theorem oneStr : ∀ (t : ByteArray) (u : Value), u ∈ scell t → u.oneCell' = true := by
  intro t u hu
  simp only [scell, List.mem_cons, List.not_mem_nil, or_false] at hu
  subst hu; rfl
set_option maxRecDepth 100000 in
theorem c_CloneStr (A : Option Addr) (n c : Nat) (ts : List ByteArray) (w : World) (hm : n ≤ 1048576) (h : Rd w A n 1 (ts.map scell)) :
    Calls Tryd.prog 44 #[.slice A n c] w fun e w' => (∃ A' c', e = .returned (.slice A' n c') ∧ Row w' w.heap.size 9 1 scell A' n c' ts) ∧ Bw w w' := by
  have hl := h.len
  have kn := fun (W : World) (a : Option Addr) (l c : Nat) => Lib.run_eql_slice_nil (P := Tryd.prog) W 22 9 a l c 0 0 Tryd.underlying22
  cases A with
  | none =>
    have h0 : n = 0 := by
      rcases Nat.eq_zero_or_pos n with h0 | h0
      · exact h0
      · obtain ⟨b, off, hA, _⟩ := h.at_ h0; cases hA
    subst h0
    obtain rfl : ts = [] := by simpa using hl
    go_enter Tryd.func44, Tryd.ntmps44
    go_wp2
    go_ret
    exact ⟨⟨_, _, rfl, Row.nil _ _ _ _ _⟩, Bw.refl _⟩
  | some a =>
    obtain ⟨i0, hi, hz0, hz1, hz2⟩ := info_parts infoStr
    have Hi := Lib.hid hi
    have Hz0 := Lib.hid hz0
    have Hz1 := Lib.hid hz1
    have Hz2 := Lib.hid hz2
    clear hi hz0 hz1 hz2 hl
    go_enter Tryd.func44, Tryd.ntmps44
    go_wp2_with (at_builtin; refine wpList_append_rd (enc := scell) rfl _ _ 22 rfl w.heap.size 9 i0 _ 1 16 Tryd.underlying22 Hi.out Hz0.out Hz1.out Hz2.out rfl (by decide) (fun _ => rfl) ?_ _ _ _ _ rfl (Row.empty w w.heap.size _ _ _ (Nat.le_refl _)) _ n _ ts rfl (h.keep (Bw.alloc (Bw.refl _) _)) ?_ ?_ ?_ ?_; exact oneStr; (unfold maxLen; omega); omega; simp; intro A2 c2 w2 hrow2 hg2 hmv2 hnn2)
    go_ret
    refine ⟨⟨A2, c2, by simp, by simpa using hrow2⟩, Bw.ofRow (Bw.alloc (Bw.refl _) _) hg2 (fun x hx => by simp at hx; subst hx; simp)⟩
theorem keepD {W0 w W : World} {b : Nat} {A : Option Addr} {n c : Nat} {f : ByteArray} {u : Int} (d0 : W0.cell? ⟨b, 0, none⟩ = some (.slice A n c)) (d1 : W0.cell? ⟨b, 1, none⟩ = some (.string f)) (d2 : W0.cell? ⟨b, 2, none⟩ = some (.int .i64 u)) (h0 : Bw W0 W) (h : Bw w W) :
    W.cell? ⟨b, 0, none⟩ = some (.slice A n c) ∧ W.cell? ⟨b, 1, none⟩ = some (.string f) ∧ W.cell? ⟨b, 2, none⟩ = some (.int .i64 u) ∧ Bw w W := ⟨h0.cellv d0, h0.cellv d1, h0.cellv d2, h⟩
set_option maxRecDepth 100000 in
set_option maxHeartbeats 1000000 in
theorem c_iDrain (A : Option Addr) (n c : Nat) (ss : List ByteArray) (hf : fitS ss) (f : ByteArray) (hfs : f.size ≤ maxLen) (u : Int) (w : World) (hn : n ≤ 9223372036854775807) (h : Rd w A n 1 (ss.map scell)) :
    Calls Tryd.prog 21 #[.agg #[.slice A n c, .string f, .int .i64 u]] w fun e w' => (∃ Aq cq A' c', e = .returned (.tuple #[.agg #[.slice Aq 0 cq, .string (drF ss f u), .int .i64 (drU ss f u)], .slice A' (drL ss f u).length c', .bool (lkB ss f u)]) ∧ Row w' w.heap.size 9 1 scell A' (drL ss f u).length c' (drL ss f u)) ∧ Bw w w' := by
  have hl := Lib.hid h.slen
  have hk0 : Bw w ((w.alloc (.cells #[.slice A n c, .string f, .int .i64 u] 27)).alloc (.cells #[.slice none 0 0, .string ⟨#[]⟩, .int .i64 0] 27)) := by (repeat (first | with_reducible assumption | exact Bw.refl _ | (with_reducible refine Bw.setCell ?_ (by simp) _) | (with_reducible refine Bw.alloc ?_ _) | (with_reducible refine Bw.drew ?_) | (with_reducible refine Bw.drewN ?_ _)))
  cases hg : lkB ss f u
  · have HR := Lib.hid (show drL ss f u = [] ∧ drF ss f u = ⟨#[]⟩ ∧ drU ss f u = 0 by simp [drL, drF, drU, hg])
    rw [HR.out.1, HR.out.2.1, HR.out.2.2]
    go_enter Tryd.func21, Tryd.ntmps21
    go_wp2_with (go_at_call 12; refine (c_IsValidLink _ _ _ ss hf f hfs u hg _ hn (h.keep hk0)).mono ?_; rintro e w1 ⟨rfl, hb1⟩; have e0 := hb1.cellv (p := ⟨w.heap.size + 1, 0, none⟩) (v := .slice none 0 0) (by go_simp); have e1 := hb1.cellv (p := ⟨w.heap.size + 1, 1, none⟩) (v := .string ⟨#[]⟩) (by go_simp); have e2 := hb1.cellv (p := ⟨w.heap.size + 1, 2, none⟩) (v := .int .i64 0) (by go_simp); have ff : ∀ j, w1.frozen? ⟨w.heap.size + 1, j, none⟩ = false := (fun j => (hb1.frz ⟨w.heap.size + 1, j, none⟩ (by simp)).trans (by go_simp)))
    have hk1 := hk0.trans hb1
    refine bodyPost_ret (v := .tuple #[.agg #[.slice none 0 0, .string ⟨#[]⟩, .int .i64 0], .slice none 0 0, .bool false]) (by simp [results, Tryd.results21, go_sem, e0, e1, e2]) rfl ⟨⟨_, _, _, _, rfl, Row.nil _ _ _ _ _⟩, ?_⟩
    (repeat (first | with_reducible assumption | exact Bw.refl _ | (with_reducible refine Bw.setCell ?_ (by simp) _) | (with_reducible refine Bw.alloc ?_ _) | (with_reducible refine Bw.drew ?_) | (with_reducible refine Bw.drewN ?_ _)))
  · have HR := Lib.hid (show drL ss f u = ss ∧ drF ss f u = f ∧ drU ss f u = u by simp [drL, drF, drU, hg])
    have hn8 : n ≤ 8 := by rw [← hl.out]; exact (lkB_iff.1 hg).1
    rw [HR.out.1, HR.out.2.1, HR.out.2.2, hl.out]
    go_enter Tryd.func21, Tryd.ntmps21
    go_wp2_with (go_at_call 12; refine (c_IsValidLink _ _ _ ss hf f hfs u hg _ hn (h.keep hk0)).mono ?_; rintro e w1 ⟨rfl, hb1⟩; have d0 := hb1.cellv (p := ⟨w.heap.size, 0, none⟩) (v := .slice A n c) (by go_simp); have d1 := hb1.cellv (p := ⟨w.heap.size, 1, none⟩) (v := .string f) (by go_simp); have d2 := hb1.cellv (p := ⟨w.heap.size, 2, none⟩) (v := .int .i64 u) (by go_simp); have e0 := hb1.cellv (p := ⟨w.heap.size + 1, 0, none⟩) (v := .slice none 0 0) (by go_simp); have e1 := hb1.cellv (p := ⟨w.heap.size + 1, 1, none⟩) (v := .string ⟨#[]⟩) (by go_simp); have e2 := hb1.cellv (p := ⟨w.heap.size + 1, 2, none⟩) (v := .int .i64 0) (by go_simp); have ff : ∀ j, w1.frozen? ⟨w.heap.size + 1, j, none⟩ = false := (fun j => (hb1.frz ⟨w.heap.size + 1, j, none⟩ (by simp)).trans (by go_simp)))
    have hk1 := hk0.trans hb1
    have hs1 : w.heap.size + 1 < w1.heap.size := World.block_lt_of_cell? w1 _ e0
    go_region_held3 (fun W => W.cell? ⟨w.heap.size, 0, none⟩ = some (.slice A n c) ∧ W.cell? ⟨w.heap.size, 1, none⟩ = some (.string f) ∧ W.cell? ⟨w.heap.size, 2, none⟩ = some (.int .i64 u) ∧ Bw w W) (first | exact ⟨d0, d1, d2, hk1.drew⟩ | exact ⟨g0, g1, g2, hk2⟩ | (refine ⟨?_, ?_, ?_, ?_⟩; (focus (simp [go_sem, g0, g1, g2]; done)); (focus (simp [go_sem, g0, g1, g2]; done)); (focus (simp [go_sem, g0, g1, g2]; done)); (focus ((repeat (first | with_reducible assumption | exact Bw.refl _ | (with_reducible refine Bw.setCell ?_ (by simp) _) | (with_reducible refine Bw.alloc ?_ _) | (with_reducible refine Bw.drew ?_) | (with_reducible refine Bw.drewN ?_ _))); done)))) (first | ((have hS := ‹World.cell? _ _ = _ ∧ World.cell? _ _ = _ ∧ World.cell? _ _ = _ ∧ Bw w _›); (have hbS := hS.2.2.2); clear hS; (go_at_call 44); refine (c_CloneStr _ _ _ ss _ (by omega) (h.keep hbS)).mono ?_; rintro e w2 ⟨⟨A2, c2, rfl, row2⟩, hb20⟩; have hb2 := Bw.trans ((Bw.refl w1).drew) hb20; have hk2 := hk1.trans hb2; have g0 := hb2.cellv d0; have g1 := hb2.cellv d1; have g2 := hb2.cellv d2; have a0 := hb2.cellv e0; have a1 := hb2.cellv e1; have a2 := hb2.cellv e2; have fg : ∀ j, w2.frozen? ⟨w.heap.size + 1, j, none⟩ = false := (fun j => (hb2.frz ⟨w.heap.size + 1, j, none⟩ hs1).trans (ff j))))
    all_goals
      go_wp2
      have lt2 := row2.lt
      have ne2 : ∀ x, A2 = some x → w.heap.size + 1 ≠ x.block := fun x hx he => by have h3 := (lt2 x hx).1; simp at h3; omega
      have r1 := row2.store ⟨w.heap.size + 1, 0, none⟩ (.slice none 0 0) ne2
      have r2 := r1.store ⟨w.heap.size + 1, 1, none⟩ (.string f) ne2
      have r3 := r2.store ⟨w.heap.size + 1, 2, none⟩ (.int .i64 u) ne2
      refine bodyPost_ret (v := .tuple #[.agg #[.slice none 0 0, .string f, .int .i64 u], .slice A2 n c2, .bool true]) (by simp [results, Tryd.results21, go_sem, a0, a1, a2]) rfl ⟨⟨_, _, _, _, rfl, r3.mono (by simp; omega)⟩, ?_⟩
      exact (((hk2.setCell (p := ⟨w.heap.size + 1, 0, none⟩) (by simp) (.slice none 0 0)).setCell (p := ⟨w.heap.size + 1, 1, none⟩) (by simp) (.string f)).setCell (p := ⟨w.heap.size + 1, 2, none⟩) (by simp) (.int .i64 u))
end Go.Proofs.YtilgllbojdkhhaaDoor
