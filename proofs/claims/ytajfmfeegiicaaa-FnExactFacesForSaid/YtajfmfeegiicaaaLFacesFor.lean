
/- The law FnExactFacesFor: the walk. -/
import Derived.Test.YtajfmfeegiicaaaE8
import Derived.Deep.RegionHeld3
namespace Go.Proofs.Ytajfmfeegiicaaa
open Go.RowKit
set_option maxRecDepth 100000 in
set_option maxHeartbeats 1000000 in
theorem w_FacesFor (t : Int) (A : Option Addr) (n c : Nat) (es : List Ev) (ts : List Ent) (x : Int) (w : World) (hm : n ≤ 9223372036854775807) (h : RdE w A n es ts) :
    Calls Try.prog 5 #[.agg #[.int .i64 t, .slice A n c], .int .i64 x] w fun e w' => e = .returned (.bool true) ∧ Bw w w' := by
  have hlE := h.len
  go_enter Try.func5, Try.ntmps5
  go_wp2_with (go_at_call 6; refine (c_szElement t _ _ _ es ts hm _ (h.keep (Bw.alloc (Bw.refl _) _))).mono ?_; rintro e w1 ⟨⟨m, rfl, hmx, hmm⟩, hb1⟩; have d0 := hb1.cellv (p := ⟨w.heap.size, 0, none⟩) (v := .int .i64 t) (by go_simp); have d1 := hb1.cellv (p := ⟨w.heap.size, 1, none⟩) (v := .slice A n c) (by go_simp))
  · go_ret
    exact ⟨rfl, Bw.trans (Bw.alloc (Bw.refl _) _) hb1⟩
  · have hmm := hmm.resolve_left (by omega)
    have hn := hmm.1
    have HM2 := Lib.hid hmm.2
    have hL2 : (facesR t es x).length ≤ 1048576 := by
      unfold facesR; split
      · rename_i hc
        rcases posN_cases es es.length x with hp | ⟨k, hk, hp, _⟩
        · rw [hp] at hc; exact absurd hc.2 (by omega)
        · rw [hp]
          have h1 := (h.ints (k := k) (by omega)).ilen
          have h2 := hmm.2 k (by omega)
          simp only [Int.toNat_natCast]
          omega
      · simp
    generalize hL : facesR t es x = L at hL2
    have HL := Lib.hid hL
    generalize hC : facesC t es x = rb
    have HC := Lib.hid hC
    clear hL hC hmm hmx hlE
    have hL : L.length ≤ 9223372036854775807 := by omega
    have k1 : Bw w w1 := Bw.trans (Bw.alloc (Bw.refl _) _) hb1
    refine (c_toElement t _ _ _ es ts _ hn (h.keep k1) HM2.out).mono ?_
    rintro e w2 ⟨⟨A2, c2, ts2, rfl, row2⟩, hb2⟩
    have e0 := hb2.cellv d0
    have e1 := hb2.cellv d1
    have len2 : ∀ k, k < n → (entAt ts2 k).n ≤ 1048576 := fun k hk => by
      have h1 := (row2.rd.ints hk).ilen
      have h2 := (h.ints hk).ilen
      have h3 := HM2.out k hk
      omega
    clear d0 d1
    go_wp2_with fail
    refine (c_sFacesFor t _ _ _ es ts2 x HL.out _ hn len2 row2.rd).mono ?_
    rw [HC.out]
    rintro e w3 ⟨⟨Aw, cw, rfl, roww⟩, hb3⟩
    have rdw := roww.rd (fun _ => rfl)
    have f0 := hb3.cellv e0
    have f1 := hb3.cellv e1
    clear e0 e1
    have k3 := (k1.trans hb2).trans hb3
    go_wp2_with fail
    refine (c_toElement t _ _ _ es ts _ hn (h.keep k3) HM2.out).mono ?_
    rintro e w4 ⟨⟨A4, c4, ts4, rfl, row4⟩, hb4⟩
    have g0 := hb4.cellv f0
    have g1 := hb4.cellv f1
    have z3 : w.heap.size < w3.heap.size := World.block_lt_of_cell? w3 _ f0
    have len4 : ∀ k, k < n → (entAt ts4 k).n ≤ 1048576 := fun k hk => by
      have h1 := (row4.rd.ints hk).ilen
      have h2 := (h.ints hk).ilen
      have h3 := HM2.out k hk
      omega
    have rd4 := row4.rd
    have cap4 := row4.row.caps.1
    have k4 := k3.trans hb4
    go_wp2_with fail
    refine (c_iFacesFor t _ _ _ es ts4 x HL.out _ hn cap4 len4 (rd4.keep (Bw.alloc (Bw.refl _) _))).mono ?_
    rw [HC.out]
    rintro e w5 ⟨⟨Ag, cg, rfl, rowg⟩, hb5⟩
    have rdg := rowg.rd (fun _ => rfl)
    have ltg := rowg.lt
    have x0 := hb5.cellv (p := ⟨w4.heap.size, 0, none⟩) (v := .int .i64 t) (by go_simp)
    have x1 := hb5.cellv (p := ⟨w4.heap.size, 1, none⟩) (v := .slice A4 n c4) (by go_simp)
    have q45 : Bw w4 w5 := (Bw.alloc (Bw.refl w4) _).trans hb5
    have y0 := q45.cellv g0
    have y1 := q45.cellv g1
    have k35 := hb4.trans q45
    clear f0 f1 g0 g1
    go_wp2_with fail
    refine (c_eqIntS _ _ _ _ _ _ _ hL rdg (rdw.keep k35)).mono ?_
    rintro e w6 ⟨rfl, hb6⟩
    have x0 := hb6.cellv x0
    have x1 := hb6.cellv x1
    have y0 := hb6.cellv y0
    have y1 := hb6.cellv y1
    have hrb : (rb != rb) = false := by simp
    go_wp2_with fail
    go_region_held3 (fun W => W.cell? ⟨w.heap.size, 0, none⟩ = some (.int .i64 t) ∧ W.cell? ⟨w.heap.size, 1, none⟩ = some (.slice A n c) ∧ W.cell? ⟨w4.heap.size, 0, none⟩ = some (.int .i64 t) ∧ W.cell? ⟨w4.heap.size, 1, none⟩ = some (.slice A4 n c4) ∧ Bw w6 W) (first | exact ⟨y0, y1, x0, x1, Bw.drew (Bw.refl _)⟩ | exact ⟨hb7.cellv s0, hb7.cellv s1, hb7.cellv s2, hb7.cellv s3, hb7b⟩ | exact ⟨hb8.cellv r0, hb8.cellv r1, hb8.cellv r2, hb8.cellv r3, hb8b⟩ | (simp_all; done)) (first | ((have hS := ‹World.cell? _ _ = _ ∧ World.cell? _ _ = _ ∧ World.cell? _ _ = _ ∧ World.cell? _ _ = _ ∧ Bw w6 _›); (obtain ⟨s0, s1, s2, s3, s6⟩ := hS); (go_at_call 8); refine (c_toElement t _ _ _ es ts _ hn (h.keep (((k4.trans q45).trans hb6).trans s6)) HM2.out).mono ?_; rintro e w7 ⟨⟨A7, c7, ts7, rfl, row7⟩, hb7⟩; have hb7b := Bw.trans s6 hb7) | ((have hS := ‹World.cell? _ _ = _ ∧ World.cell? _ _ = _ ∧ World.cell? _ _ = _ ∧ World.cell? _ _ = _ ∧ Bw w6 _›); (obtain ⟨r0, r1, r2, r3, r6⟩ := hS); (go_at_call 10); refine (c_eqElement t _ _ _ _ _ es ts4 ts7 _ hm (((rd4.keep q45).keep hb6).keep r6) row7.rd).mono ?_; rintro e w8 ⟨rfl, hb8⟩; have hb8b := Bw.trans r6 hb8))
    have q58 : Bw w5 w8 := hb6.trans hb8b
    have x0 := hb8b.cellv x0
    have x1 := hb8b.cellv x1
    have y0 := hb8b.cellv y0
    have y1 := hb8b.cellv y1
    have lt4 := row4.row.lt
    have ltf := fun k hk => (row4.fs k hk).lt
    go_wp2_with fail
    refine (c_markElement t _ _ _ es ts4 1 w3.heap.size w4.heap.size _ Ag _ cg L _ hn (by omega) (by omega) len4 ((row4.keep q45).keep q58) ((k35.trans q58).size) (fun y hy => (lt4 y hy).2) (fun k hk y hy => (ltf k hk y hy).2) (rowg.keep q58) (fun y hy => by have := (ltg y hy).1; simp at this; omega)).mono ?_
    rintro e w9 ⟨⟨k', rfl, hk'⟩, rowg9, hb9⟩
    have k39 : Bw w3 w9 := ⟨(k35.trans q58).b.trans hb9⟩
    have rdg9 := rowg9.rd (fun _ => rfl)
    have hkk : ¬ k' < 0 := by omega
    have y0 := (hb9.cell (p := ⟨w.heap.size, 0, none⟩) z3).trans y0
    have y1 := (hb9.cell (p := ⟨w.heap.size, 1, none⟩) z3).trans y1
    go_wp2_with fail
    refine (c_eqIntS _ _ _ _ _ _ _ hL rdg9 (rdw.keep k39)).mono ?_
    rintro e w10 ⟨rfl, hb10⟩
    have y0 := hb10.cellv y0
    have y1 := hb10.cellv y1
    go_wp2_with fail
    refine (c_markIntS _ _ _ _ 1 _ _ hL2 (by omega) (by omega) (rowg9.keep hb10)).mono ?_
    rintro e w11 ⟨rfl, rowg11, hg11⟩
    have k311 : Bw w3 w11 := Bw.ofRow (k39.trans hb10) hg11 (fun x hx => by have h1 := (ltg x hx).1; have h2 := hb4.size; simp at h1; omega)
    have rdg11 := rowg11.rd (fun _ => rfl)
    have hgne : ∀ q, some (⟨w.heap.size, q, none⟩ : Addr).block ≠ Value.ownBlock (.slice Ag L.length cg) := fun q he => by
      cases Ag with
      | none => simp [Value.ownBlock] at he
      | some y =>
        have h1 := (ltg y rfl).1
        have h2 := hb4.size
        simp only [Value.ownBlock, Option.some.injEq] at he
        simp at h1
        omega
    have y0 := hg11.cell y0 (hgne 0)
    have y1 := hg11.cell y1 (hgne 1)
    go_wp2_with fail
    refine (c_heldIntS _ _ _ 1 _ hL2 (by omega) (by omega) rdg11).mono ?_
    rintro e _ ⟨rfl, rfl⟩
    go_wp2_with fail
    refine (c_toElement t _ _ _ es ts _ hn (h.keep (k3.trans k311)) HM2.out).mono ?_
    rintro e w12 ⟨⟨A12, c12, ts12, rfl, row12⟩, hb12⟩
    have len12 : ∀ k, k < n → (entAt ts12 k).n ≤ 1048576 := fun k hk => by
      have h1 := (row12.rd.ints hk).ilen
      have h2 := (h.ints hk).ilen
      have h3 := HM2.out k hk
      omega
    go_wp2_with fail
    refine (c_iFacesFor t _ _ _ es ts12 x HL.out _ hn row12.row.caps.1 len12 row12.rd).mono ?_
    rw [HC.out]
    rintro e w13 ⟨⟨Ah, ch, rfl, rowh⟩, hb13⟩
    have rdh := rowh.rd (fun _ => rfl)
    have b1113 := hb12.trans hb13
    go_wp2_with fail
    refine (c_eqIntS _ _ _ _ _ _ _ hL rdh (rdw.keep (k311.trans b1113))).mono ?_
    rintro e w14 ⟨rfl, hb14⟩
    go_wp2_with fail
    refine (c_heldIntS _ _ _ 1 _ hL2 (by omega) (by omega) (rdg11.keep (b1113.trans hb14))).mono ?_
    rintro e _ ⟨rfl, rfl⟩
    go_wp2_with fail
    go_ret
    exact ⟨rfl, ((k3.trans k311).trans b1113).trans hb14⟩
end Go.Proofs.Ytajfmfeegiicaaa
