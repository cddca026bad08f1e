
/- The law FnExactParseSlots: the walk. -/
import Derived.Test.YtedbidepplmjdaaDoorZ4
import Derived.Test.YtedbidepplmjdaaDoorZ5
namespace Go.Proofs.YtedbidepplmjdaaDoor
open Go.RowKit Go.Shelf
set_option maxRecDepth 100000 in
theorem w_ParseSlots (s : ByteArray) (hz : s.size ≤ maxLen) (w : World) (hp : PEnv w) :
    Calls Tryd.prog 4 #[.string s] w fun e w' => e = .returned (.bool true) ∧ Bw w w' := by
  unfold maxLen at hz
  by_cases h20 : 1048576 < s.size
  · go_enter Tryd.func4, Tryd.ntmps4
    go_wp2
    go_ret
    exact ⟨rfl, Bw.refl _⟩
  · have hs : s.size ≤ 1048576 := by omega
    have HS := Lib.hid (fun W => c_sParseSlots s hs W)
    have HI := Lib.hid (fun W hp => c_iParseSlots s hs W hp)
    have ⟨hL, _⟩ := psT_fit s
    generalize psT s = L at *
    generalize psB s = r at *
    generalize psU s = v at *
    have hrr : (r != r) = false := by simp
    have hge : ¬ (1 : Int) + 2 * (L.length : Int) < 0 := by omega
    have hml := marksL_len L.length 1
    have HML := Lib.hid hml
    clear hml
    go_enter Tryd.func4, Tryd.ntmps4
    go_wp2_with fail
    refine (HS.out _).mono ?_
    rintro e w1 ⟨⟨A1, c1, rfl, row1⟩, hb1⟩
    go_wp2_with fail
    have k1 := hb1.alloc (.cells #[.int .i64 v, .slice A1 L.length c1] 30)
    refine (HI.out _ (hp.keep k1)).mono ?_
    rintro e w2 ⟨⟨A2, c2, rfl, row2⟩, hb2⟩
    have d1 := hb2.cellv (p := ⟨w1.heap.size, 1, none⟩) (v := .slice A1 L.length c1) (by go_simp)
    have d1i := hb2.cellv (p := ⟨w1.heap.size, 0, none⟩) (v := .int .i64 v) (by go_simp)
    have row1b := (row1.keep ((Bw.refl _).alloc (.cells #[.int .i64 v, .slice A1 L.length c1] 30))).keep hb2
    have k2 := k1.trans hb2
    have lo2 := hb2.size
    simp only [World.size_alloc] at lo2 row2
    have kb := (Bw.refl w2).alloc (.cells #[.int .i64 v, .slice A2 L.length c2] 30)
    have d1a := kb.cellv d1
    have d1ai := kb.cellv d1i
    go_wp2_with fail
    refine (c_eqReceiveWindow v A2 A1 L.length c2 c1 L _ (by omega) ((row2.rd (fun _ => rfl)).keep kb) ((row1b.rd (fun _ => rfl)).keep kb)).mono ?_
    rintro e w3 ⟨rfl, hb3⟩
    have d2 := hb3.cellv (p := ⟨w2.heap.size, 1, none⟩) (v := .slice A2 L.length c2) (by go_simp)
    have d2i := hb3.cellv (p := ⟨w2.heap.size, 0, none⟩) (v := .int .i64 v) (by go_simp)
    have k23 := kb.trans hb3
    have d1b := k23.cellv d1
    have d1bi := k23.cellv d1i
    go_wp2_with fail
    have row2b := row2.keep k23
    refine (c_markReceiveWindow v A2 L.length c2 L 1 (w1.heap.size + 1) _ (by omega) (by omega) (by omega) row2b).mono ?_
    rintro e w4 ⟨rfl, row4, hg4⟩
    have d1c := hg4.cell d1b (own_neS (b := w1.heap.size) (fun x hx => by have := (row2.lt x hx).1; omega))
    have d1ci := hg4.cell d1bi (own_neS (b := w1.heap.size) (fun x hx => by have := (row2.lt x hx).1; omega))
    have d2c := hg4.cell d2 (own_neS (b := w2.heap.size) (fun x hx => by have := (row2.lt x hx).2; omega))
    have d2ci := hg4.cell d2i (own_neS (b := w2.heap.size) (fun x hx => by have := (row2.lt x hx).2; omega))
    have row1c := (row1b.keep k23).grown hg4 (fun x hx he => by
      have h1 := (row1.lt x hx).2
      cases A2 with
      | none => simp [Value.ownBlock] at he
      | some z =>
        simp only [Value.ownBlock, Option.some.injEq] at he
        have h2 := (row2.lt z rfl).1
        omega)
    have k4 : Bw w w4 := Bw.ofRow (k2.trans k23) hg4 (fun x hx => by have := (row2.lt x hx).1; have := hb1.size; omega)
    go_wp2_with fail
    refine (c_heldReceiveWindow v A2 L.length c2 1 _ (by omega) (by omega) (by omega) (row4.rd (fun _ => rfl))).mono ?_
    rintro e w5 ⟨rfl, hb5⟩
    have d1d := hb5.cellv d1c
    have d1di := hb5.cellv d1ci
    have d2d := hb5.cellv d2c
    have d2di := hb5.cellv d2ci
    have k5 := k4.trans hb5
    go_wp2_with fail
    refine (HI.out _ (hp.keep k5)).mono ?_
    rintro e w6 ⟨⟨A6, c6, rfl, row6⟩, hb6⟩
    have kb6 := (Bw.refl w6).alloc (.cells #[.int .i64 v, .slice A6 L.length c6] 30)
    have d1e := (hb6.trans kb6).cellv d1d
    have d1ei := (hb6.trans kb6).cellv d1di
    have d2e := (hb6.trans kb6).cellv d2d
    have d2ei := (hb6.trans kb6).cellv d2di
    have row1e := ((row1c.keep hb5).keep hb6).keep kb6
    go_wp2_with fail
    refine (c_eqReceiveWindow v A6 A1 L.length c6 c1 L _ (by omega) ((row6.rd (fun _ => rfl)).keep kb6) (row1e.rd (fun _ => rfl))).mono ?_
    rintro e w7 ⟨rfl, hb7⟩
    have d2f := hb7.cellv d2e
    have d2fi := hb7.cellv d2ei
    go_wp2_with fail
    refine (c_heldReceiveWindow v A2 L.length c2 1 _ (by omega) (by omega) (by omega) (((row4.rd (fun _ => rfl)).keep hb5).keep ((hb6.trans kb6).trans hb7))).mono ?_
    rintro e w8 ⟨rfl, hb8⟩
    go_wp2
    go_ret
    exact ⟨rfl, ((k5.trans (hb6.trans kb6)).trans hb7).trans hb8⟩
end Go.Proofs.YtedbidepplmjdaaDoor
