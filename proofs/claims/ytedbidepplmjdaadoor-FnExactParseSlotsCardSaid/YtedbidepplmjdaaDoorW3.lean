
/- SlotsText: both sides. -/
import Derived.Test.YtedbidepplmjdaaDoorW2
namespace Go.Proofs.YtedbidepplmjdaaDoor
open Go.RowKit
def stxT (t : Int) (ts : List Slot) : ByteArray := if rwB t ts = true then slotsT t.toNat ts else ⟨#[]⟩
theorem rw_facts {t : Int} {ts : List Slot} (h : rwB t ts = true) : (∃ u : Nat, t = u ∧ u ≤ 65535) ∧ ts.length ≤ 8 ∧ ∀ k, k < ts.length → (slotAt ts k).item.size ≤ 100 := by
  have ⟨h1, h2, h3, _⟩ := rwB_iff.1 h
  have hb := inR_iff.1 h1
  refine ⟨⟨t.toNat, by omega, by omega⟩, h2, fun k hk => ?_⟩
  have := List.all_eq_true.1 h3 _ (List.getElem_mem hk)
  rw [slotAt_lt hk]
  simp only [slotB, itemB, Bool.and_eq_true, decide_eq_true_eq] at this
  omega
set_option maxRecDepth 100000 in
theorem c_sSlotsText (t : Int) (A : Option Addr) (n c : Nat) (ts : List Slot) (hf : fitL ts) (w : World) (hm : n ≤ 9223372036854775807) (h : Rd w A n 2 (ts.map Slot.cells)) :
    Calls Tryd.prog 6 #[.agg #[.int .i64 t, .slice A n c]] w fun e w' => e = .returned (.tuple #[.string (stxT t ts), .bool (rwB t ts)]) ∧ Bw w w' := by
  have hl := h.slotlen
  have hbx := (Bw.refl w).alloc (.cells #[.int .i64 t, .slice A n c] 30)
  cases hg : rwB t ts
  · have HR := Lib.hid (show stxT t ts = ⟨#[]⟩ by simp [stxT, hg])
    go_enter Tryd.func6, Tryd.ntmps6
    go_wp2_with (go_at_call 15; refine (c_l10Good _ _ _ _ ts hf (by first | exact hg | exact HG.out) _ hm (h.keep hbx)).mono ?_; rintro e w1 ⟨rfl, hb1⟩)
    go_ret2
    rw [HR.out]
    exact ⟨rfl, hbx.trans hb1⟩
  · obtain ⟨⟨u, rfl, hu⟩, h8, hi⟩ := rw_facts hg
    have HR := Lib.hid (show stxT (u : Int) ts = slotsT u ts by simp [stxT, hg])
    have HI := Lib.hid hi
    have HG := Lib.hid hg
    have hn8 : n ≤ 100 := by omega
    clear hi hg hl h8
    go_enter Tryd.func6, Tryd.ntmps6
    go_wp2_with (first | (go_at_call 15; refine (c_l10Good _ _ _ _ ts hf (by first | exact hg | exact HG.out) _ hm (h.keep hbx)).mono ?_; rintro e w1 ⟨rfl, hb1⟩; have d0 := hb1.cellv (p := ⟨w.heap.size, 0, none⟩) (v := .int .i64 (u : Int)) (by go_simp); have d1 := hb1.cellv (p := ⟨w.heap.size, 1, none⟩) (v := .slice A n c) (by go_simp)) | (go_at_call 16; refine (c_l10Text u hu _ _ _ ts HI.out _ hn8 ((h.keep hbx).keep hb1)).mono ?_; rintro e w2 ⟨rfl, hb2⟩))
    go_ret2
    rw [HR.out]
    exact ⟨rfl, (hbx.trans hb1).trans hb2⟩
set_option maxRecDepth 100000 in
theorem c_iSlotsText (t : Int) (A : Option Addr) (n c : Nat) (ts : List Slot) (hf : fitL ts) (w : World) (ht : Tab10 w) (hm : n ≤ 9223372036854775807) (h : Rd w A n 2 (ts.map Slot.cells)) :
    Calls Tryd.prog 8 #[.agg #[.int .i64 t, .slice A n c]] w fun e w' => e = .returned (.tuple #[.string (stxT t ts), .bool (rwB t ts)]) ∧ Bw w w' := by
  have hl := h.slotlen
  have hbx := (Bw.refl w).alloc (.cells #[.int .i64 t, .slice A n c] 30)
  cases hg : rwB t ts
  · have HR := Lib.hid (show stxT t ts = ⟨#[]⟩ by simp [stxT, hg])
    go_enter Tryd.func8, Tryd.ntmps8
    go_wp2_with (go_at_call 18; refine (c_IsValidReceiveWindow _ _ _ _ ts hf (by first | exact hg | exact HG.out) _ hm (h.keep hbx)).mono ?_; rintro e w1 ⟨rfl, hb1⟩)
    go_ret2
    rw [HR.out]
    exact ⟨rfl, hbx.trans hb1⟩
  · obtain ⟨⟨u, rfl, hu⟩, h8, hi⟩ := rw_facts hg
    have HR := Lib.hid (show stxT (u : Int) ts = slotsT u ts by simp [stxT, hg])
    have HI := Lib.hid hi
    have HG := Lib.hid hg
    have hn8 : n ≤ 100 := by omega
    clear hi hg hl h8
    go_enter Tryd.func8, Tryd.ntmps8
    go_wp2_with (first | (go_at_call 18; refine (c_IsValidReceiveWindow _ _ _ _ ts hf (by first | exact hg | exact HG.out) _ hm (h.keep hbx)).mono ?_; rintro e w1 ⟨rfl, hb1⟩; have d0 := hb1.cellv (p := ⟨w.heap.size, 0, none⟩) (v := .int .i64 (u : Int)) (by go_simp); have d1 := hb1.cellv (p := ⟨w.heap.size, 1, none⟩) (v := .slice A n c) (by go_simp)) | (go_at_call 19; refine (c_slotsText u hu _ _ _ ts HI.out _ ((ht.keep hbx).keep hb1) hn8 ((h.keep hbx).keep hb1)).mono ?_; rintro e w2 ⟨rfl, hb2⟩))
    go_ret2
    rw [HR.out]
    exact ⟨rfl, (hbx.trans hb1).trans hb2⟩
end Go.Proofs.YtedbidepplmjdaaDoor
