
/- The law FnExactTreeText: the walk. -/
import Derived.Test.YthciecmofgoebaaDoorTT
import Derived.Test.YthciecmofgoebaaDoorP5T
import Derived.Deep.RegionHeld3
namespace Go.Proofs.YthciecmofgoebaaDoor
open Go.RowKit
set_option maxRecDepth 100000 in
theorem w_TreeText (A : Option Addr) (n c : Nat) (ts : List Int) (w : World) (ht : Tab10 w) (hm : n ≤ 9223372036854775807) (h : Rd w A n 1 (ts.map icell)) :
    Calls Tryd.prog 3 #[.agg #[.slice A n c]] w fun e w' => e = .returned (.bool true) ∧ Bw w w' := by
  have HS := Lib.hid (fun A n c W hm h => c_sTreeText A n c ts W hm h)
  have HI := Lib.hid (fun A n c W hcap ht hm h => c_iTreeText A n c ts W hcap ht hm h)
  generalize goodP ts = r at *
  generalize ttxT ts = x at *
  go_enter Tryd.func3, Tryd.ntmps3
  go_wp2_with (go_at_call 5; refine (c_szTree _ _ _ hm _).mono ?_; rintro e w1 ⟨⟨m, rfl, hmm⟩, hb1⟩; have d1 := hb1.cellv (p := ⟨w.heap.size, 0, none⟩) (v := .slice A n c) (by go_simp))
  · go_ret
    exact ⟨rfl, Bw.trans (Bw.alloc (Bw.refl _) _) hb1⟩
  · have hn : n ≤ 1048576 := by omega
    clear hmm
    have k1 : Bw w w1 := Bw.trans (Bw.alloc (Bw.refl _) _) hb1
    refine (c_toTree _ _ _ ts _ hn (h.keep k1)).mono ?_
    rintro e w2 ⟨⟨A2, c2, rfl, row2⟩, hb2⟩
    have d2 := hb2.cellv d1
    go_wp2_with fail
    refine (HS.out _ _ _ _ hm (row2.rd (fun _ => rfl))).mono ?_
    rintro e w3 ⟨rfl, hb3⟩
    have d3 := hb3.cellv d2
    have k3 := (k1.trans hb2).trans hb3
    go_wp2_with fail
    refine (c_toTree _ _ _ ts _ hn (h.keep k3)).mono ?_
    rintro e w4 ⟨⟨A4, c4, rfl, row4⟩, hb4⟩
    have d4 := hb4.cellv d3
    have rd4 := row4.rd (fun _ => rfl)
    have k4 := k3.trans hb4
    have htx := ht.keep k4
    go_wp2_with fail
    refine (HI.out _ _ _ _ row4.caps.1 (htx.keep (Bw.alloc (Bw.refl _) _)) hm (rd4.keep (Bw.alloc (Bw.refl _) _))).mono ?_
    rintro e w5 ⟨rfl, hb5⟩
    have d5 := hb5.cellv (p := ⟨w4.heap.size, 0, none⟩) (v := .slice A4 n c4) (by go_simp)
    have f5 := ((Bw.alloc (Bw.refl w4) _).trans hb5).cellv d4
    have k5 : Bw w4 w5 := (Bw.alloc (Bw.refl w4) _).trans hb5
    go_wp2_with fail
    go_region_held3 (fun W => W.cell? ⟨w.heap.size, 0, none⟩ = some (.slice A n c) ∧ W.cell? ⟨w4.heap.size, 0, none⟩ = some (.slice A4 n c4) ∧ Bw w5 W) (first | exact ⟨f5, d5, Bw.drew (Bw.refl _)⟩ | exact ⟨hb6.cellv s1, hb6.cellv s2, hb6b⟩ | exact ⟨hb7.cellv t1, hb7.cellv t2, hb7b⟩ | (simp_all; done)) (first | ((have hS := ‹World.cell? _ _ = _ ∧ World.cell? _ _ = _ ∧ Bw w5 _›); (obtain ⟨s1, s2, s3⟩ := hS); (go_at_call 7); refine (c_toTree _ _ _ ts _ hn (h.keep ((k4.trans k5).trans s3))).mono ?_; rintro e w6 ⟨⟨A6, c6, rfl, row6⟩, hb6⟩; have hb6b := Bw.trans s3 hb6) | ((have hS := ‹World.cell? _ _ = _ ∧ World.cell? _ _ = _ ∧ Bw w5 _›); (obtain ⟨t1, t2, t3⟩ := hS); (go_at_call 9); refine (c_eqTree _ _ _ _ _ ts _ hm (rd4.keep (k5.trans t3)) (row6.rd (fun _ => rfl))).mono ?_; rintro e w7 ⟨rfl, hb7⟩; have hb7b := Bw.trans t3 hb7))
    go_wp2
    go_ret
    exact ⟨rfl, (k4.trans k5).trans hb7b⟩
end Go.Proofs.YthciecmofgoebaaDoor
