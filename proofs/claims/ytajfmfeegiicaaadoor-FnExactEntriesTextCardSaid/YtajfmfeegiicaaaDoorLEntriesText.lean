
/- The law FnExactEntriesText: the walk. -/
import Derived.Test.YtajfmfeegiicaaaDoorET2
import Derived.Deep.RegionHeld3
namespace Go.Proofs.YtajfmfeegiicaaaDoor
open Go.RowKit
set_option maxRecDepth 100000 in
theorem w_EntriesText (t : Int) (A : Option Addr) (n c : Nat) (es : List Ev) (ts : List Ent) (w : World) (ht : Tab10 w) (hm : n ≤ 9223372036854775807) (h : RdE w A n es ts) :
    Calls Tryd.prog 3 #[.agg #[.int .i64 t, .slice A n c]] w fun e w' => e = .returned (.bool true) ∧ Bw w w' := by
  have HS := Lib.hid (fun A c ts W hm h => c_sEntriesText t A n c es ts W hm h)
  have HI := Lib.hid (fun A c ts W ht hm hc h => c_iEntriesText t A n c es ts W ht hm hc h)
  generalize elB t es = r at *
  generalize etxT t es = x at *
  go_enter Tryd.func3, Tryd.ntmps3
  go_wp2_with (go_at_call 5; refine (c_szElement t _ _ _ es ts hm _ (h.keep (Bw.alloc (Bw.refl _) _))).mono ?_; rintro e w1 ⟨⟨m, rfl, hmx, hmm⟩, hb1⟩; have d0 := hb1.cellv (p := ⟨w.heap.size, 0, none⟩) (v := .int .i64 t) (by go_simp); have d1 := hb1.cellv (p := ⟨w.heap.size, 1, none⟩) (v := .slice A n c) (by go_simp))
  · go_ret
    exact ⟨rfl, Bw.trans (Bw.alloc (Bw.refl _) _) hb1⟩
  · have hmm := hmm.resolve_left (by omega)
    have hn := hmm.1
    have HM2 := Lib.hid hmm.2
    clear hmm hmx
    have k1 : Bw w w1 := Bw.trans (Bw.alloc (Bw.refl _) _) hb1
    refine (c_toElement t _ _ _ es ts _ hn (h.keep k1) HM2.out).mono ?_
    rintro e w2 ⟨⟨A2, c2, ts2, rfl, row2⟩, hb2⟩
    have e0 := hb2.cellv d0
    have e1 := hb2.cellv d1
    clear d0 d1
    go_wp2_with fail
    refine (HS.out _ _ _ _ hm row2.rd).mono ?_
    rintro e w3 ⟨rfl, hb3⟩
    have f0 := hb3.cellv e0
    have f1 := hb3.cellv e1
    clear e0 e1
    have k3 := (k1.trans hb2).trans hb3
    go_wp2_with fail
    refine (c_toElement t _ _ _ es ts _ hn (h.keep k3) HM2.out).mono ?_
    rintro e w4 ⟨⟨A4, c4, ts4, rfl, row4⟩, hb4⟩
    have g0 := hb4.cellv f0
    have g1 := hb4.cellv f1
    clear f0 f1
    have rd4 := row4.rd
    have cap4 := row4.row.caps.1
    have k4 := k3.trans hb4
    go_wp2_with fail
    have htx := Tab10.keep ht k4
    refine (HI.out _ _ _ _ (htx.keep (Bw.alloc (Bw.refl _) _)) hm cap4 (rd4.keep (Bw.alloc (Bw.refl _) _))).mono ?_
    rintro e w5 ⟨rfl, hb5⟩
    have x0 := hb5.cellv (p := ⟨w4.heap.size, 0, none⟩) (v := .int .i64 t) (by go_simp)
    have x1 := hb5.cellv (p := ⟨w4.heap.size, 1, none⟩) (v := .slice A4 n c4) (by go_simp)
    have k5 : Bw w4 w5 := (Bw.alloc (Bw.refl w4) _).trans hb5
    have y0 := k5.cellv g0
    have y1 := k5.cellv g1
    clear g0 g1
    go_wp2_with fail
    go_region_held3 (fun W => W.cell? ⟨w.heap.size, 0, none⟩ = some (.int .i64 t) ∧ W.cell? ⟨w.heap.size, 1, none⟩ = some (.slice A n c) ∧ W.cell? ⟨w4.heap.size, 0, none⟩ = some (.int .i64 t) ∧ W.cell? ⟨w4.heap.size, 1, none⟩ = some (.slice A4 n c4) ∧ Bw w5 W) (first | exact ⟨y0, y1, x0, x1, Bw.drew (Bw.refl _)⟩ | exact ⟨hb6.cellv s0, hb6.cellv s1, hb6.cellv s2, hb6.cellv s3, hb6b⟩ | exact ⟨hb7.cellv r0, hb7.cellv r1, hb7.cellv r2, hb7.cellv r3, hb7b⟩ | (simp_all; done)) (first | ((have hS := ‹World.cell? _ _ = _ ∧ World.cell? _ _ = _ ∧ World.cell? _ _ = _ ∧ World.cell? _ _ = _ ∧ Bw w5 _›); (obtain ⟨s0, s1, s2, s3, s6⟩ := hS); (go_at_call 7); refine (c_toElement t _ _ _ es ts _ hn (h.keep ((k4.trans k5).trans s6)) HM2.out).mono ?_; rintro e w6 ⟨⟨A6, c6, ts6, rfl, row6⟩, hb6⟩; have hb6b := Bw.trans s6 hb6) | ((have hS := ‹World.cell? _ _ = _ ∧ World.cell? _ _ = _ ∧ World.cell? _ _ = _ ∧ World.cell? _ _ = _ ∧ Bw w5 _›); (obtain ⟨r0, r1, r2, r3, r6⟩ := hS); (go_at_call 9); refine (c_eqElement t _ _ _ _ _ es ts4 ts6 _ hm (rd4.keep (k5.trans r6)) row6.rd).mono ?_; rintro e w7 ⟨rfl, hb7⟩; have hb7b := Bw.trans r6 hb7))
    go_wp2
    go_ret
    exact ⟨rfl, (k4.trans k5).trans hb7b⟩
end Go.Proofs.YtajfmfeegiicaaaDoor
