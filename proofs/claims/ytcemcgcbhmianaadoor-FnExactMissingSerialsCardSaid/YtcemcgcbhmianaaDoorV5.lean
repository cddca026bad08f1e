
/- Receive windows: highest seen, waiting, have. -/
import Derived.Test.YtcemcgcbhmianaaDoorV4
import Derived.Deep.RegionHeld3
namespace Go.Proofs.YtcemcgcbhmianaaDoor
open Go.RowKit
def seenR (t : Int) (ts : List Slot) : Int := if rwB t ts = true then aftI t ts.length else 0
theorem c_sHighestSeen (t : Int) (A : Option Addr) (n c : Nat) (ts : List Slot) (hf : fitL ts) {m : Int} (hm : seenR t ts = m) {r : Bool} (hr : rwB t ts = r) (w : World) (hn : n ≤ 9223372036854775807) (h : Rd w A n 2 (ts.map Slot.cells)) :
    Calls Tryd.prog 19 #[.agg #[.int .i64 t, .slice A n c]] w fun e w' => e = .returned (.tuple #[.int .i64 m, .bool r]) ∧ Bw w w' := by
  have hl := Lib.hid h.slotlen
  have hbx : Bw w (w.alloc (.cells #[.int .i64 t, .slice A n c] 29)) := Bw.alloc (Bw.refl _) _
  subst hr hm
  cases hg : rwB t ts
  · have HR := Lib.hid (show seenR t ts = 0 by rw [seenR, hg]; rfl)
    go_enter Tryd.func19, Tryd.ntmps19
    go_wp2_with (go_at_call 49; refine (c_l10Good t _ _ _ ts hf hg _ hn (h.keep hbx)).mono ?_; rintro e w1 ⟨rfl, hb1⟩)
    go_ret2
    rw [HR.out]
    exact ⟨rfl, hbx.trans hb1⟩
  · obtain ⟨g1, g2, g3, g4⟩ := rwB_iff.1 hg
    have ⟨t0, t1⟩ := inR_iff.1 g1
    have hn8 : n ≤ 8 := by have := hl.out; omega
    have HR := Lib.hid (show seenR t ts = aftI t n by rw [seenR, hg, hl.out]; rfl)
    have Hg := Lib.hid hg
    clear g1 g2 g3 g4 hg
    go_enter Tryd.func19, Tryd.ntmps19
    go_wp2_with (first | (go_at_call 49; refine (c_l10Good t _ _ _ ts hf Hg.out _ hn (h.keep hbx)).mono ?_; rintro e w1 ⟨rfl, hb1⟩; have d0 := hb1.cellv (p := ⟨w.heap.size, 0, none⟩) (v := .int .i64 t) (by go_simp); have d1 := hb1.cellv (p := ⟨w.heap.size, 1, none⟩) (v := .slice A n c) (by go_simp)) | (go_at_call 56; refine (c_l2After _ _ rfl (by omega) (by omega) (by omega) (by omega) _).mono ?_; rintro e w2 ⟨rfl, rfl⟩))
    go_ret2
    rw [HR.out]
    exact ⟨rfl, hbx.trans hb1⟩
theorem c_iHighestSeen (t : Int) (A : Option Addr) (n c : Nat) (ts : List Slot) (hf : fitL ts) {m : Int} (hm : seenR t ts = m) {r : Bool} (hr : rwB t ts = r) (w : World) (hn : n ≤ 9223372036854775807) (h : Rd w A n 2 (ts.map Slot.cells)) :
    Calls Tryd.prog 20 #[.agg #[.int .i64 t, .slice A n c]] w fun e w' => e = .returned (.tuple #[.int .i64 m, .bool r]) ∧ Bw w w' := by
  have hl := Lib.hid h.slotlen
  have hbx : Bw w (w.alloc (.cells #[.int .i64 t, .slice A n c] 29)) := Bw.alloc (Bw.refl _) _
  subst hr hm
  cases hg : rwB t ts
  · have HR := Lib.hid (show seenR t ts = 0 by rw [seenR, hg]; rfl)
    go_enter Tryd.func20, Tryd.ntmps20
    go_wp2_with (go_at_call 17; refine (c_IsValidReceiveWindow t _ _ _ ts hf hg _ hn (h.keep hbx)).mono ?_; rintro e w1 ⟨rfl, hb1⟩)
    go_ret2
    rw [HR.out]
    exact ⟨rfl, hbx.trans hb1⟩
  · obtain ⟨g1, g2, g3, g4⟩ := rwB_iff.1 hg
    have ⟨t0, t1⟩ := inR_iff.1 g1
    have hn8 : n ≤ 8 := by have := hl.out; omega
    have HR := Lib.hid (show seenR t ts = aftI t n by rw [seenR, hg, hl.out]; rfl)
    have Hg := Lib.hid hg
    clear g1 g2 g3 g4 hg
    go_enter Tryd.func20, Tryd.ntmps20
    go_wp2_with (first | (go_at_call 17; refine (c_IsValidReceiveWindow t _ _ _ ts hf Hg.out _ hn (h.keep hbx)).mono ?_; rintro e w1 ⟨rfl, hb1⟩; have d0 := hb1.cellv (p := ⟨w.heap.size, 0, none⟩) (v := .int .i64 t) (by go_simp); have d1 := hb1.cellv (p := ⟨w.heap.size, 1, none⟩) (v := .slice A n c) (by go_simp)) | (go_at_call 57; refine (c_after _ _ rfl (by omega) (by omega) (by omega) (by omega) _).mono ?_; rintro e w2 ⟨rfl, rfl⟩))
    go_ret2
    rw [HR.out]
    exact ⟨rfl, hbx.trans hb1⟩
end Go.Proofs.YtcemcgcbhmianaaDoor
