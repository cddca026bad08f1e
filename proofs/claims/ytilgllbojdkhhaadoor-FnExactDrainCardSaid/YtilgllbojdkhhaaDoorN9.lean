
/- Links: drained; the reference's side. -/
import Derived.Test.YtilgllbojdkhhaaDoorN8
namespace Go.Proofs.YtilgllbojdkhhaaDoor
open Go.RowKit Go.Shelf
theorem Row.emptyK {T : Type} {W W' : World} {lo : Nat} {e : TypeId} {sz : Nat} {enc : T → List Value} {g : Nat} (hlo : lo ≤ W.heap.size) (hg : W.heap.size = g) (hb : Bw (W.alloc (.cells #[] e)) W') : Row W' lo e sz enc (some ⟨g, 0, none⟩) 0 0 [] := by
  subst hg; exact (Row.empty W lo e sz enc hlo).keep hb
set_option maxRecDepth 100000 in
theorem c_l7With (A : Option Addr) (n c : Nat) (f : ByteArray) (u0 : Int) (B : Option Addr) (m d : Nat) (u : Int) (w : World) :
    Calls Tryd.prog 43 #[.agg #[.slice A n c, .string f, .int .i64 u0], .slice B m d, .int .i64 u] w fun e w' => e = .returned (.agg #[.slice B m d, .string f, .int .i64 u]) ∧ Bw w w' := by
  have hk0 : Bw w ((w.alloc (.cells #[.slice A n c, .string f, .int .i64 u0] 27)).alloc (.cells #[.slice none 0 0, .string ⟨#[]⟩, .int .i64 0] 27)) := by (repeat (first | with_reducible assumption | exact Bw.refl _ | (with_reducible refine Bw.setCell ?_ (by simp) _) | (with_reducible refine Bw.alloc ?_ _) | (with_reducible refine Bw.drew ?_) | (with_reducible refine Bw.drewN ?_ _)))
  go_enter Tryd.func43, Tryd.ntmps43
  go_wp2
  refine bodyPost_ret (v := .agg #[.slice B m d, .string f, .int .i64 u]) (by simp [results, Tryd.results43, go_sem]) rfl ⟨rfl, ?_⟩
  (repeat (first | with_reducible assumption | exact Bw.refl _ | (with_reducible refine Bw.setCell ?_ (by simp) _) | (with_reducible refine Bw.alloc ?_ _) | (with_reducible refine Bw.drew ?_) | (with_reducible refine Bw.drewN ?_ _)))
set_option maxRecDepth 100000 in
set_option maxHeartbeats 4000000 in
theorem c_sDrain (A : Option Addr) (n c : Nat) (ss : List ByteArray) (hf : fitS ss) (f : ByteArray) (hfs : f.size ≤ maxLen) (u : Int) (w : World) (hn : n ≤ 9223372036854775807) (h : Rd w A n 1 (ss.map scell)) :
    Calls Tryd.prog 20 #[.agg #[.slice A n c, .string f, .int .i64 u]] w fun e w' => (∃ Aq cq A' c', e = .returned (.tuple #[.agg #[.slice Aq 0 cq, .string (drF ss f u), .int .i64 (drU ss f u)], .slice A' (drL ss f u).length c', .bool (lkB ss f u)]) ∧ Row w' w.heap.size 9 1 scell A' (drL ss f u).length c' (drL ss f u)) ∧ Bw w w' := by
  have hl := Lib.hid h.slen
  have hk0 : Bw w ((w.alloc (.cells #[.slice A n c, .string f, .int .i64 u] 27)).alloc (.cells #[.slice none 0 0, .string ⟨#[]⟩, .int .i64 0] 27)) := by (repeat (first | with_reducible assumption | exact Bw.refl _ | (with_reducible refine Bw.setCell ?_ (by simp) _) | (with_reducible refine Bw.alloc ?_ _) | (with_reducible refine Bw.drew ?_) | (with_reducible refine Bw.drewN ?_ _)))
  cases hg : lkB ss f u
  · have HR := Lib.hid (show drL ss f u = [] ∧ drF ss f u = ⟨#[]⟩ ∧ drU ss f u = 0 by simp [drL, drF, drU, hg])
    rw [HR.out.1, HR.out.2.1, HR.out.2.2]
    go_enter Tryd.func20, Tryd.ntmps20
    go_wp2_with (go_at_call 35; refine (c_l7Good _ _ _ ss hf f hfs u hg _ hn (h.keep hk0)).mono ?_; rintro e w1 ⟨rfl, hb1⟩; have e0 := hb1.cellv (p := ⟨w.heap.size + 1, 0, none⟩) (v := .slice none 0 0) (by go_simp); have e1 := hb1.cellv (p := ⟨w.heap.size + 1, 1, none⟩) (v := .string ⟨#[]⟩) (by go_simp); have e2 := hb1.cellv (p := ⟨w.heap.size + 1, 2, none⟩) (v := .int .i64 0) (by go_simp); have ff : ∀ j, w1.frozen? ⟨w.heap.size + 1, j, none⟩ = false := (fun j => (hb1.frz ⟨w.heap.size + 1, j, none⟩ (by simp)).trans (by go_simp)); have hs1 : w.heap.size + 1 < w1.heap.size := World.block_lt_of_cell? w1 _ e0)
    have k3 := (((hk0.trans hb1).setCell (p := ⟨w.heap.size + 1, 0, none⟩) (by simp) (.slice none 0 0)).setCell (p := ⟨w.heap.size + 1, 1, none⟩) (by simp) (.string ⟨#[]⟩)).setCell (p := ⟨w.heap.size + 1, 2, none⟩) (by simp) (.int .i64 0)
    have r3 := Row.empty (T := ByteArray) (((w1.setCell ⟨w.heap.size + 1, 0, none⟩ (.slice none 0 0)).setCell ⟨w.heap.size + 1, 1, none⟩ (.string ⟨#[]⟩)).setCell ⟨w.heap.size + 1, 2, none⟩ (.int .i64 0)) w.heap.size 9 1 scell (by simp; omega)
    simp only [World.size_setCell] at r3
    refine bodyPost_ret (v := .tuple #[.agg #[.slice none 0 0, .string ⟨#[]⟩, .int .i64 0], .slice (some ⟨w1.heap.size, 0, none⟩) 0 0, .bool false]) (by simp [results, Tryd.results20, go_sem, e0, e1, e2, hs1]) rfl ⟨⟨_, _, _, _, rfl, r3⟩, k3.alloc _⟩
  · have HR := Lib.hid (show drL ss f u = ss ∧ drF ss f u = f ∧ drU ss f u = u by simp [drL, drF, drU, hg])
    have hn8 : n ≤ 8 := by rw [← hl.out]; exact (lkB_iff.1 hg).1
    obtain ⟨i0, hi, hz0, hz1, hz2⟩ := info_parts infoStr
    have Hi := Lib.hid hi
    have Hz0 := Lib.hid hz0
    have Hz1 := Lib.hid hz1
    have Hz2 := Lib.hid hz2
    clear hi hz0 hz1 hz2
    rw [HR.out.1, HR.out.2.1, HR.out.2.2, hl.out]
    go_enter Tryd.func20, Tryd.ntmps20
    go_wp2_with (go_at_call 35; refine (c_l7Good _ _ _ ss hf f hfs u hg _ hn (h.keep hk0)).mono ?_; rintro e w1 ⟨rfl, hb1⟩; have d0 := hb1.cellv (p := ⟨w.heap.size, 0, none⟩) (v := .slice A n c) (by go_simp); have d1 := hb1.cellv (p := ⟨w.heap.size, 1, none⟩) (v := .string f) (by go_simp); have d2 := hb1.cellv (p := ⟨w.heap.size, 2, none⟩) (v := .int .i64 u) (by go_simp); have e0 := hb1.cellv (p := ⟨w.heap.size + 1, 0, none⟩) (v := .slice none 0 0) (by go_simp); have e1 := hb1.cellv (p := ⟨w.heap.size + 1, 1, none⟩) (v := .string ⟨#[]⟩) (by go_simp); have e2 := hb1.cellv (p := ⟨w.heap.size + 1, 2, none⟩) (v := .int .i64 0) (by go_simp); have ff : ∀ j, w1.frozen? ⟨w.heap.size + 1, j, none⟩ = false := (fun j => (hb1.frz ⟨w.heap.size + 1, j, none⟩ (by simp)).trans (by go_simp)))
    have hk1 := hk0.trans hb1
    have hs1 : w.heap.size + 1 < w1.heap.size := World.block_lt_of_cell? w1 _ e0
    clear hk0 hb1
    go_region_held3 (fun W => W.cell? ⟨w.heap.size, 0, none⟩ = some (.slice A n c) ∧ W.cell? ⟨w.heap.size, 1, none⟩ = some (.string f) ∧ W.cell? ⟨w.heap.size, 2, none⟩ = some (.int .i64 u) ∧ Bw w W) (first | (refine keepD d0 d1 d2 ?_ ?_; (focus ((repeat (first | with_reducible assumption | exact Bw.refl _ | (with_reducible refine Bw.setCell ?_ (by dsimp only; omega) _) | (with_reducible refine Bw.alloc ?_ _) | (with_reducible refine Bw.drew ?_) | (with_reducible refine Bw.drewN ?_ _))); done)); (refine hk1.trans ?_; (focus ((repeat (first | with_reducible assumption | exact Bw.refl _ | (with_reducible refine Bw.setCell ?_ (by dsimp only; omega) _) | (with_reducible refine Bw.alloc ?_ _) | (with_reducible refine Bw.drew ?_) | (with_reducible refine Bw.drewN ?_ _))); done)))) | ((have hS := ‹World.cell? _ _ = _ ∧ World.cell? _ _ = _ ∧ World.cell? _ _ = _ ∧ Bw w _›); (obtain ⟨g0, g1, g2, g3⟩ := hS); refine ⟨?_, ?_, ?_, ?_⟩; (focus (simp [go_sem, g0, g1, g2]; done)); (focus (simp [go_sem, g0, g1, g2]; done)); (focus (simp [go_sem, g0, g1, g2]; done)); (focus ((repeat (first | with_reducible assumption | exact Bw.refl _ | (with_reducible refine Bw.setCell ?_ (by simp) _) | (with_reducible refine Bw.alloc ?_ _) | (with_reducible refine Bw.drew ?_) | (with_reducible refine Bw.drewN ?_ _))); done)))) (first | ((go_at_call 43); refine (c_l7With _ _ _ f _ _ _ _ _ _).mono ?_; rintro e w2 ⟨rfl, hb20⟩; have hbC : Bw w1 w2 := Bw.trans (by (repeat (first | with_reducible assumption | exact Bw.refl _ | (with_reducible refine Bw.setCell ?_ (by dsimp only; omega) _) | (with_reducible refine Bw.alloc ?_ _) | (with_reducible refine Bw.drew ?_) | (with_reducible refine Bw.drewN ?_ _)))) hb20; have a0 := hbC.cellv e0; have a1 := hbC.cellv e1; have a2 := hbC.cellv e2; have fg : ∀ j, w2.frozen? ⟨w.heap.size + 1, j, none⟩ = false := (fun j => (hbC.frz ⟨w.heap.size + 1, j, none⟩ hs1).trans (ff j))) | ((have hS := ‹World.cell? _ _ = _ ∧ World.cell? _ _ = _ ∧ World.cell? _ _ = _ ∧ Bw w _›); (have hbS := hS.2.2.2); clear hS; (refine step_append_rd (enc := scell) (by rfl) (.tmp 15) (.tmp 17) 22 ?_ w1.heap.size 9 i0 _ 1 16 Tryd.underlying22 Hi.out Hz0.out Hz1.out Hz2.out rfl (by decide) (fun _ => rfl) oneStr _ 0 0 [] (by rfl) ?_ _ n _ ss (by rfl) (h.keep hbS) (by unfold maxLen; omega) (by omega) ?_ ?_); (focus rfl); (focus (first | (refine Row.emptyK (W := w1) ?_ ?_ ?_; (focus ((first | omega | exact Nat.le_refl _ | (simp; done) | exact Bw.size hbS | (simp; omega)))); (focus (first | rfl | (simp; done))); (focus (first | ((repeat (first | with_reducible assumption | exact Bw.refl _ | (with_reducible refine Bw.setCell ?_ (by simp) _) | (with_reducible refine Bw.alloc ?_ _) | (with_reducible refine Bw.drew ?_) | (with_reducible refine Bw.drewN ?_ _))); done) | (refine Bw.trans ?_ hb20; (repeat (first | with_reducible assumption | exact Bw.refl _ | (with_reducible refine Bw.setCell ?_ (by simp) _) | (with_reducible refine Bw.alloc ?_ _) | (with_reducible refine Bw.drew ?_) | (with_reducible refine Bw.drewN ?_ _))); done)))) | (refine Row.emptyK (W := w1.alloc (.cells #[] 9)) ?_ ?_ ?_; (focus ((first | omega | exact Nat.le_refl _ | (simp; done) | exact Bw.size hbS | (simp; omega)))); (focus (first | rfl | (simp; done))); (focus (first | ((repeat (first | with_reducible assumption | exact Bw.refl _ | (with_reducible refine Bw.setCell ?_ (by simp) _) | (with_reducible refine Bw.alloc ?_ _) | (with_reducible refine Bw.drew ?_) | (with_reducible refine Bw.drewN ?_ _))); done) | (refine Bw.trans ?_ hb20; (repeat (first | with_reducible assumption | exact Bw.refl _ | (with_reducible refine Bw.setCell ?_ (by simp) _) | (with_reducible refine Bw.alloc ?_ _) | (with_reducible refine Bw.drew ?_) | (with_reducible refine Bw.drewN ?_ _))); done)))) | (refine Row.emptyK (W := w2) ?_ ?_ ?_; (focus (exact hbC.size)); (focus (first | rfl | (simp; done))); (focus ((repeat (first | with_reducible assumption | exact Bw.refl _ | (with_reducible refine Bw.setCell ?_ (by simp) _) | (with_reducible refine Bw.alloc ?_ _) | (with_reducible refine Bw.drew ?_) | (with_reducible refine Bw.drewN ?_ _))); done))))); (focus (first | (exact Bw.size (by ((repeat (first | with_reducible assumption | exact Bw.refl _ | (with_reducible refine Bw.setCell ?_ (by dsimp only; omega) _) | (with_reducible refine Bw.alloc ?_ _) | (with_reducible refine Bw.drew ?_) | (with_reducible refine Bw.drewN ?_ _))); done))) | (simp; done) | (simp; omega))); (intro A2 c2 wA hrow2 hg2 hmv2 hnn2); (rw [Nat.zero_add, List.nil_append] at hrow2); (try simp only [Nat.zero_add]); (have hbA : Bw w1 wA := Bw.ofRow (by (repeat (first | with_reducible assumption | exact Bw.refl _ | (with_reducible refine Bw.setCell ?_ (by dsimp only; omega) _) | (with_reducible refine Bw.alloc ?_ _) | (with_reducible refine Bw.drew ?_) | (with_reducible refine Bw.drewN ?_ _)))) hg2 (fun x hx => by simp at hx; subst hx; first | (simp; done) | (simp; omega) | (have := hbC.size; simp; omega))); have a0 := hbA.cellv e0; have a1 := hbA.cellv e1; have a2 := hbA.cellv e2; have fg : ∀ j, wA.frozen? ⟨w.heap.size + 1, j, none⟩ = false := (fun j => (hbA.frz ⟨w.heap.size + 1, j, none⟩ hs1).trans (ff j))))
    all_goals
      have lt2 := hrow2.lt
      have hk2 := hk1.trans hbA
      have ne2 : ∀ x, A2 = some x → w.heap.size + 1 ≠ x.block := fun x hx he => by have h3 := (lt2 x hx).1; omega
      have a0 := hbA.cellv e0
      have a1 := hbA.cellv e1
      have a2 := hbA.cellv e2
      go_wp2
      first
        | (
          refine bodyPost_ret (v := .tuple #[.agg #[.slice (some ⟨w1.heap.size, 0, none⟩) 0 0, .string f, .int .i64 u], .slice A2 n c2, .bool true]) ?_ rfl ⟨⟨_, _, _, _, rfl, (((hrow2.store ⟨w.heap.size + 1, 0, none⟩ _ ne2).store ⟨w.heap.size + 1, 1, none⟩ _ ne2).store ⟨w.heap.size + 1, 2, none⟩ _ ne2).mono (by omega)⟩, ?_⟩
          focus (simp [results, Tryd.results20, go_sem, a0, a1, a2]; done)
          exact (((hk2.setCell (p := ⟨w.heap.size + 1, 0, none⟩) (by simp) _).setCell (p := ⟨w.heap.size + 1, 1, none⟩) (by simp) _).setCell (p := ⟨w.heap.size + 1, 2, none⟩) (by simp) _)
          done)
        | (
          refine bodyPost_ret (v := .tuple #[.agg #[.slice (some ⟨w1.heap.size + 1, 0, none⟩) 0 0, .string f, .int .i64 u], .slice A2 n c2, .bool true]) ?_ rfl ⟨⟨_, _, _, _, rfl, (((hrow2.store ⟨w.heap.size + 1, 0, none⟩ _ ne2).store ⟨w.heap.size + 1, 1, none⟩ _ ne2).store ⟨w.heap.size + 1, 2, none⟩ _ ne2).mono (by omega)⟩, ?_⟩
          focus (simp [results, Tryd.results20, go_sem, a0, a1, a2]; done)
          exact (((hk2.setCell (p := ⟨w.heap.size + 1, 0, none⟩) (by simp) _).setCell (p := ⟨w.heap.size + 1, 1, none⟩) (by simp) _).setCell (p := ⟨w.heap.size + 1, 2, none⟩) (by simp) _)
          done)
end Go.Proofs.YtilgllbojdkhhaaDoor
