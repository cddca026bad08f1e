
/- Send windows: the status packet. -/
import Derived.Test.YthdmnngmijbcbaaDoorS5
import Derived.Test.YthdmnngmijbcbaaDoorK20
namespace Go.Proofs.YthdmnngmijbcbaaDoor
open Go.RowKit
/-- A packet. -/
structure Pk where
  kind : Int
  number : Int
  trail : Int
  lead : Int
  data : ByteArray
def Pk.val (p : Pk) : Value := .agg #[.int .i64 p.kind, .int .i64 p.number, .int .i64 p.trail, .int .i64 p.lead, .string p.data]
def Pk.zero : Pk := ⟨0, 0, 0, 0, ⟨#[]⟩⟩
theorem c_eqPacket (k n t l : Int) (d : ByteArray) (w : World) : Calls Tryd.prog 24 #[.agg #[.int .i64 k, .int .i64 n, .int .i64 t, .int .i64 l, .string d], .agg #[.int .i64 k, .int .i64 n, .int .i64 t, .int .i64 l, .string d]] w fun e w' => e = .returned (.bool true) ∧ Bw w w' := by
  go_enter Tryd.func24, Tryd.ntmps24
  go_wp2
  go_ret
  exact ⟨rfl, by (repeat (first | with_reducible assumption | exact Bw.refl _ | (with_reducible refine Bw.setCell ?_ (by simp) _) | (with_reducible refine Bw.alloc ?_ _) | (with_reducible refine Bw.drew ?_) | (with_reducible refine Bw.drewN ?_ _)))⟩
set_option maxRecDepth 100000 in
set_option maxHeartbeats 1000000 in
theorem c_l9Status (t z : Int) (A : Option Addr) (n c : Nat) {m : Int} (hm : aftI t n = m) (h0 : 0 ≤ t) (h1 : t ≤ 65535) (h2 : n ≤ 6) (w : World) :
    Calls Tryd.prog 62 #[.agg #[.int .i64 t, .int .i64 z, .slice A n c]] w fun e w' => e = .returned (.agg #[.int .i64 5, .int .i64 t, .int .i64 t, .int .i64 m, .string ⟨#[]⟩]) ∧ Bw w w' := by
  go_enter Tryd.func62, Tryd.ntmps62
  go_wp2
  have hk : Bw w ((w.alloc (.cells #[.int .i64 t, .int .i64 z, .slice A n c] 27)).alloc (.cells #[.int .i64 0, .int .i64 0, .int .i64 0, .int .i64 0, .string ⟨#[]⟩] 37)) := by (repeat (first | with_reducible assumption | exact Bw.refl _ | (with_reducible refine Bw.setCell ?_ (by simp) _) | (with_reducible refine Bw.alloc ?_ _) | (with_reducible refine Bw.drew ?_) | (with_reducible refine Bw.drewN ?_ _)))
  refine wp_region_ext_tail 7 (by kernel_rfl) (by kernel_rfl) ?_
  simp only [List.take_succ_cons, List.take_zero, List.drop_succ_cons, List.drop_zero]
  (repeat (go_big_quiet_step (exact Ext.calls (c_l9Lead t z _ _ _ hm h0 h1 h2 _))))
  (with_reducible refine wpQuiet_nil ?_)
  intro w2 hb2
  have e0 := hb2.cellv (p := ⟨w.heap.size + 1, 0, none⟩) (v := .int .i64 0) (by go_simp)
  have e1 := hb2.cellv (p := ⟨w.heap.size + 1, 1, none⟩) (v := .int .i64 0) (by go_simp)
  have e2 := hb2.cellv (p := ⟨w.heap.size + 1, 2, none⟩) (v := .int .i64 0) (by go_simp)
  have e3 := hb2.cellv (p := ⟨w.heap.size + 1, 3, none⟩) (v := .int .i64 0) (by go_simp)
  have e4 := hb2.cellv (p := ⟨w.heap.size + 1, 4, none⟩) (v := .string ⟨#[]⟩) (by go_simp)
  have ff : ∀ j, w2.frozen? ⟨w.heap.size + 1, j, none⟩ = false := fun j => (hb2.frz ⟨w.heap.size + 1, j, none⟩ (by simp)).trans (by go_simp)
  go_wp2
  refine bodyPost_ret (v := .agg #[.int .i64 5, .int .i64 t, .int .i64 t, .int .i64 m, .string ⟨#[]⟩]) (by simp [results, Tryd.results62, go_sem, e0, e1, e2, e3, e4]) rfl ⟨rfl, ?_⟩
  have hk2 := hk.trans hb2
  (repeat (first | with_reducible assumption | exact Bw.refl _ | (with_reducible refine Bw.setCell ?_ (by simp) _) | (with_reducible refine Bw.alloc ?_ _) | (with_reducible refine Bw.drew ?_) | (with_reducible refine Bw.drewN ?_ _)))
set_option maxRecDepth 100000 in
set_option maxHeartbeats 1000000 in
theorem c_status (t z : Int) (A : Option Addr) (n c : Nat) {m : Int} (hm : aftI t n = m) (h0 : 0 ≤ t) (h1 : t ≤ 65535) (h2 : n ≤ 6) (w : World) :
    Calls Tryd.prog 63 #[.agg #[.int .i64 t, .int .i64 z, .slice A n c]] w fun e w' => e = .returned (.agg #[.int .i64 5, .int .i64 t, .int .i64 t, .int .i64 m, .string ⟨#[]⟩]) ∧ Bw w w' := by
  go_enter Tryd.func63, Tryd.ntmps63
  go_wp2
  have hk : Bw w ((w.alloc (.cells #[.int .i64 t, .int .i64 z, .slice A n c] 27)).alloc (.cells #[.int .i64 0, .int .i64 0, .int .i64 0, .int .i64 0, .string ⟨#[]⟩] 37)) := by (repeat (first | with_reducible assumption | exact Bw.refl _ | (with_reducible refine Bw.setCell ?_ (by simp) _) | (with_reducible refine Bw.alloc ?_ _) | (with_reducible refine Bw.drew ?_) | (with_reducible refine Bw.drewN ?_ _)))
  refine wp_region_ext_tail 7 (by kernel_rfl) (by kernel_rfl) ?_
  simp only [List.take_succ_cons, List.take_zero, List.drop_succ_cons, List.drop_zero]
  (repeat (go_big_quiet_step (exact Ext.calls (c_lead t z _ _ _ hm h0 h1 h2 _))))
  (with_reducible refine wpQuiet_nil ?_)
  intro w2 hb2
  have e0 := hb2.cellv (p := ⟨w.heap.size + 1, 0, none⟩) (v := .int .i64 0) (by go_simp)
  have e1 := hb2.cellv (p := ⟨w.heap.size + 1, 1, none⟩) (v := .int .i64 0) (by go_simp)
  have e2 := hb2.cellv (p := ⟨w.heap.size + 1, 2, none⟩) (v := .int .i64 0) (by go_simp)
  have e3 := hb2.cellv (p := ⟨w.heap.size + 1, 3, none⟩) (v := .int .i64 0) (by go_simp)
  have e4 := hb2.cellv (p := ⟨w.heap.size + 1, 4, none⟩) (v := .string ⟨#[]⟩) (by go_simp)
  have ff : ∀ j, w2.frozen? ⟨w.heap.size + 1, j, none⟩ = false := fun j => (hb2.frz ⟨w.heap.size + 1, j, none⟩ (by simp)).trans (by go_simp)
  go_wp2
  refine bodyPost_ret (v := .agg #[.int .i64 5, .int .i64 t, .int .i64 t, .int .i64 m, .string ⟨#[]⟩]) (by simp [results, Tryd.results63, go_sem, e0, e1, e2, e3, e4]) rfl ⟨rfl, ?_⟩
  have hk2 := hk.trans hb2
  (repeat (first | with_reducible assumption | exact Bw.refl _ | (with_reducible refine Bw.setCell ?_ (by simp) _) | (with_reducible refine Bw.alloc ?_ _) | (with_reducible refine Bw.drew ?_) | (with_reducible refine Bw.drewN ?_ _)))
end Go.Proofs.YthdmnngmijbcbaaDoor
