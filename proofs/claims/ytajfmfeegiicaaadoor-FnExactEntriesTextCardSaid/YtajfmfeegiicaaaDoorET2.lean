
/- EntriesText: both sides. -/
import Derived.Test.YtajfmfeegiicaaaDoorET
namespace Go.Proofs.YtajfmfeegiicaaaDoor
open Go.RowKit
def etxT (ck : Int) (es : List Ev) : ByteArray := if elB ck es = true then entsT ck.toNat es else ⟨#[]⟩
set_option maxRecDepth 100000 in
theorem c_sEntriesText (ck : Int) (A : Option Addr) (n c : Nat) (es : List Ev) (ts : List Ent) (w : World) (hm : n ≤ 9223372036854775807) (h : RdE w A n es ts) :
    Calls Tryd.prog 6 #[.agg #[.int .i64 ck, .slice A n c]] w fun e w' => e = .returned (.tuple #[.string (etxT ck es), .bool (elB ck es)]) ∧ Bw w w' := by
  have hl := h.len
  have hbx := (Bw.refl w).alloc (.cells #[.int .i64 ck, .slice A n c] 30)
  cases hg : elB ck es
  · have HR := Lib.hid (show etxT ck es = ⟨#[]⟩ by simp [etxT, hg])
    go_enter Tryd.func6, Tryd.ntmps6
    go_wp2_with (go_at_call 15; refine (c_l14Good _ _ _ _ es ts (by first | exact hg | exact HG.out) _ hm (h.keep hbx)).mono ?_; rintro e w1 ⟨rfl, hb1⟩)
    go_ret2
    rw [HR.out]
    exact ⟨rfl, hbx.trans hb1⟩
  · obtain ⟨⟨u, rfl, hu⟩, h5, he⟩ := el_facts hg
    have HR := Lib.hid (show etxT (u : Int) es = entsT u es by simp [etxT, hg])
    have HE := Lib.hid he
    have HG := Lib.hid hg
    have hn5 : n ≤ 5 := by omega
    clear he hg hl h5
    go_enter Tryd.func6, Tryd.ntmps6
    go_wp2_with (first | (go_at_call 15; refine (c_l14Good _ _ _ _ es ts (by first | exact hg | exact HG.out) _ hm (h.keep hbx)).mono ?_; rintro e w1 ⟨rfl, hb1⟩; have d0 := hb1.cellv (p := ⟨w.heap.size, 0, none⟩) (v := .int .i64 u) (by go_simp); have d1 := hb1.cellv (p := ⟨w.heap.size, 1, none⟩) (v := .slice A n c) (by go_simp)) | (go_at_call 16; refine (c_l14Text u hu _ _ _ es ts hn5 HE.out _ ((h.keep hbx).keep hb1)).mono ?_; rintro e w2 ⟨rfl, hb2⟩))
    go_ret2
    rw [HR.out]
    exact ⟨rfl, (hbx.trans hb1).trans hb2⟩
set_option maxRecDepth 100000 in
theorem c_iEntriesText (ck : Int) (A : Option Addr) (n c : Nat) (es : List Ev) (ts : List Ent) (w : World) (ht : Tab10 w) (hm : n ≤ 9223372036854775807) (hcap : n ≤ c) (h : RdE w A n es ts) :
    Calls Tryd.prog 8 #[.agg #[.int .i64 ck, .slice A n c]] w fun e w' => e = .returned (.tuple #[.string (etxT ck es), .bool (elB ck es)]) ∧ Bw w w' := by
  have hl := h.len
  have hbx := (Bw.refl w).alloc (.cells #[.int .i64 ck, .slice A n c] 30)
  cases hg : elB ck es
  · have HR := Lib.hid (show etxT ck es = ⟨#[]⟩ by simp [etxT, hg])
    go_enter Tryd.func8, Tryd.ntmps8
    go_wp2_with (go_at_call 18; refine (c_IsValidElement _ _ _ _ es ts (by first | exact hg | exact HG.out) _ hm hcap (h.keep hbx)).mono ?_; rintro e w1 ⟨rfl, hb1⟩)
    go_ret2
    rw [HR.out]
    exact ⟨rfl, hbx.trans hb1⟩
  · obtain ⟨⟨u, rfl, hu⟩, h5, he⟩ := el_facts hg
    have HR := Lib.hid (show etxT (u : Int) es = entsT u es by simp [etxT, hg])
    have HE := Lib.hid he
    have HG := Lib.hid hg
    have hn5 : n ≤ 5 := by omega
    clear he hg hl h5
    go_enter Tryd.func8, Tryd.ntmps8
    go_wp2_with (first | (go_at_call 18; refine (c_IsValidElement _ _ _ _ es ts (by first | exact hg | exact HG.out) _ hm hcap (h.keep hbx)).mono ?_; rintro e w1 ⟨rfl, hb1⟩; have d0 := hb1.cellv (p := ⟨w.heap.size, 0, none⟩) (v := .int .i64 u) (by go_simp); have d1 := hb1.cellv (p := ⟨w.heap.size, 1, none⟩) (v := .slice A n c) (by go_simp)) | (go_at_call 19; refine (c_entriesText u hu _ _ _ es ts hn5 HE.out _ ((ht.keep hbx).keep hb1) ((h.keep hbx).keep hb1)).mono ?_; rintro e w2 ⟨rfl, hb2⟩))
    go_ret2
    rw [HR.out]
    exact ⟨rfl, (hbx.trans hb1).trans hb2⟩
end Go.Proofs.YtajfmfeegiicaaaDoor
