
/- The law FnExactNewNet. -/
import Derived.Test.YtpjljbhodnlhmaaGreatDoorNN7
import Derived.Test.YtpjljbhodnlhmaaGreatDoorNN1
namespace Go.Proofs.YtpjljbhodnlhmaaGreatDoor
open Go.RowKit
def nnN (b : Bool) (n : Nat) : Nat := if b = true then n else 0
def nnP (b : Bool) (ps : List Int) : List Int := if b = true then ps else []
def nnI (b : Bool) (x : Int) : Int := if b = true then x else 0
theorem u_sNewNet (A : Option Addr) (n c : Nat) (ps : List Int) (t z : Int) (b : Bool) (hb : (srcB t z [] 0 0 [] && goodP ps) = b) (w : World) (hn : n ≤ 1048576) (h : Rd w A n 1 (ps.map icell)) :
    Calls Tryz.prog 6 #[.agg #[.slice A n c], .int .i64 t, .int .i64 z] w fun e w' => (∃ B d E R Q U ce cr cq cu, e = .returned (.tuple #[.agg #[.slice B (nnN b n) d, .int .i64 (nnI b (nsT t z)), .int .i64 (nnI b (nsZ t z)), .slice none 0 0, .int .i64 0, .int .i64 0, .slice none 0 0, .slice E (nnN b n) ce, .slice R (nnN b n) cr, .slice Q (nnN b n) cq, .slice U (nnN b n) cu], .bool b]) ∧ NM w' w.heap.size (nnN b n) (nnN b n) (nnP b ps) B d E R Q U ce cr cq cu (List.replicate (nnN b n) 0) (List.replicate (nnN b n) (false, 0, 0)) (List.replicate (nnN b n) ())) ∧ Bw w w' := by
  refine (c_sNewNet A n c ps t z rfl rfl w hn h).mono ?_
  rintro e w1 ⟨h1, h2⟩
  rw [hb] at h1
  refine ⟨?_, h2⟩
  cases b
  · rw [if_neg (by decide)] at h1
    exact ⟨none, 0, none, none, none, none, 0, 0, 0, 0, h1, NM.nil _ _⟩
  · rw [if_pos rfl] at h1
    obtain ⟨B, d, g1, g2, g3, g4, he, hR⟩ := h1
    exact ⟨B, d, _, _, _, _, _, _, _, _, he, NM.ofNR hR⟩
theorem u_iNewNet (A : Option Addr) (n c : Nat) (ps : List Int) (t z : Int) (b : Bool) (hb : (srcB t z [] 0 0 [] && goodP ps) = b) (w : World) (hn : n ≤ 1048576) (h : Rd w A n 1 (ps.map icell)) :
    Calls Tryz.prog 8 #[.agg #[.slice A n c], .int .i64 t, .int .i64 z] w fun e w' => (∃ B d E R Q U ce cr cq cu, e = .returned (.tuple #[.agg #[.slice B (nnN b n) d, .int .i64 (nnI b (nsT t z)), .int .i64 (nnI b (nsZ t z)), .slice none 0 0, .int .i64 0, .int .i64 0, .slice none 0 0, .slice E (nnN b n) ce, .slice R (nnN b n) cr, .slice Q (nnN b n) cq, .slice U (nnN b n) cu], .bool b]) ∧ NM w' w.heap.size (nnN b n) (nnN b n) (nnP b ps) B d E R Q U ce cr cq cu (List.replicate (nnN b n) 0) (List.replicate (nnN b n) (false, 0, 0)) (List.replicate (nnN b n) ())) ∧ Bw w w' := by
  refine (c_iNewNet A n c ps t z rfl rfl w hn h).mono ?_
  rintro e w1 ⟨h1, h2⟩
  rw [hb] at h1
  refine ⟨?_, h2⟩
  cases b
  · rw [if_neg (by decide)] at h1
    exact ⟨none, 0, none, none, none, none, 0, 0, 0, 0, h1, NM.nil _ _⟩
  · rw [if_pos rfl] at h1
    obtain ⟨B, d, g1, g2, g3, g4, he, hR⟩ := h1
    exact ⟨B, d, _, _, _, _, _, _, _, _, he, NM.ofNR hR⟩
set_option maxRecDepth 100000 in
set_option maxHeartbeats 1000000 in
theorem w_NewNet (A : Option Addr) (n c : Nat) (ts : List Int) (t z : Int) (w : World) (hm : n ≤ 9223372036854775807) (h : Rd w A n 1 (ts.map icell)) :
    Calls Tryz.prog 3 #[.agg #[.slice A n c], .int .i64 t, .int .i64 z] w fun e w' => e = .returned (.bool true) ∧ Bw w w' := by
  have HS := Lib.hid (fun A c W hn h => u_sNewNet A n c ts t z _ rfl W hn h)
  have HI := Lib.hid (fun A c W hn h => u_iNewNet A n c ts t z _ rfl W hn h)
  generalize (srcB t z [] 0 0 [] && goodP ts) = b at *
  have HL := Lib.hid (show nnN b n ≤ n by unfold nnN; split <;> omega)
  generalize nnN b n = N at *
  generalize nnP b ts = P at *
  generalize nnI b (nsT t z) = T at *
  generalize nnI b (nsZ t z) = Z at *
  go_enter Tryz.func3, Tryz.ntmps3
  go_wp2_with (go_at_call 5; refine (c_szTree _ _ _ hm _).mono ?_; rintro e w1 ⟨⟨m, rfl, hmm⟩, hb1⟩; have d1 := hb1.cellv (p := ⟨w.heap.size, 0, none⟩) (v := .slice A n c) (by go_simp))
  · go_ret
    exact ⟨rfl, Bw.trans (Bw.alloc (Bw.refl _) _) hb1⟩
  · have hn : n ≤ 1048576 := by omega
    have hN : N ≤ 1048576 := by have := HL.out; omega
    clear hmm
    have k1 : Bw w w1 := Bw.trans (Bw.alloc (Bw.refl _) _) hb1
    refine (c_toTree _ _ _ ts _ hn (h.keep k1)).mono ?_
    rintro e w2 ⟨⟨A2, c2, rfl, row2⟩, hb2⟩
    have d2 := hb2.cellv d1
    go_wp2_with fail
    refine (HS.out _ _ _ hn (row2.rd (fun _ => rfl))).mono ?_
    rintro e w3 ⟨⟨B, d, E, R, Q, U, ce, cr, cq, cu, rfl, n3⟩, hb3⟩
    have d3 := hb3.cellv d2
    have k3 := (k1.trans hb2).trans hb3
    have da : ∀ o, (w3.alloc o).cell? ⟨w.heap.size, 0, none⟩ = some (.slice A n c) := fun o => (Bw.alloc (Bw.refl w3) o).cellv d3
    have n0 := NC.new w3 37 B N d T Z E R Q U N ce cr cq cu
    go_wp2_with fail
    clear da
    refine (c_toTree _ _ _ ts _ hn (h.keep (by exact k3.alloc _))).mono ?_
    rintro e w4 ⟨⟨A4, c4, rfl, row4⟩, hb4⟩
    have k34 : Bw w3 w4 := (Bw.alloc (Bw.refl _) _).trans hb4
    have k4 := k3.trans k34
    have d4 := k34.cellv d3
    replace n0 := n0.keep hb4
    have hbb : (b != b) = false := by simp
    go_wp2_with fail
    have rd4 := row4.rd (fun _ => rfl)
    have lt4 := row4.lt
    refine (HI.out _ _ _ hn (rd4.keep (Bw.alloc (Bw.refl _) _))).mono ?_
    rintro e w5 ⟨⟨B5, d5, E5, R5, Q5, U5, ce5, cr5, cq5, cu5, rfl, n5⟩, hb5⟩
    have p5 := hb5.cellv (p := ⟨w4.heap.size, 0, none⟩) (v := .slice A4 n c4) (by go_simp)
    have k45 : Bw w4 w5 := (Bw.alloc (Bw.refl w4) _).trans hb5
    have v5 := k45.cellv d4
    have m0 := n0.keep k45
    have M0 := Lib.hid m0
    have nx := fun o => m0.keep (Bw.alloc (Bw.refl w5) o)
    have x0 := fun o => (nx o).c0
    have x1 := fun o => (nx o).c1
    have x2 := fun o => (nx o).c2
    have x3 := fun o => (nx o).c3
    have x4 := fun o => (nx o).c4
    have x5 := fun o => (nx o).c5
    have x6 := fun o => (nx o).c6
    have x7 := fun o => (nx o).c7
    have x8 := fun o => (nx o).c8
    have x9 := fun o => (nx o).c9
    have x10 := fun o => (nx o).c10
    clear nx m0
    go_wp2_with fail
    clear x0 x1 x2 x3 x4 x5 x6 x7 x8 x9 x10
    refine (n_eqNet T Z N N P _ _ _ B5 B E5 E R5 R Q5 Q U5 U d5 d ce5 ce cr5 cr cq5 cq cu5 cu _ (by omega) (by omega) ((n5.r0.rd (fun _ => rfl)).keep (Bw.alloc (Bw.refl _) _)) ((n5.r1.rd (fun _ => rfl)).keep (Bw.alloc (Bw.refl _) _)) ((n5.r2.rd (fun _ => rfl)).keep (Bw.alloc (Bw.refl _) _)) ((n5.r3.rd (fun _ => rfl)).keep (Bw.alloc (Bw.refl _) _)) ((n5.r4.rd (fun _ => rfl)).keep (Bw.alloc (Bw.refl _) _)) ((n3.r0.rd (fun _ => rfl)).keep ((k34.trans k45).alloc _)) ((n3.r1.rd (fun _ => rfl)).keep ((k34.trans k45).alloc _)) ((n3.r2.rd (fun _ => rfl)).keep ((k34.trans k45).alloc _)) ((n3.r3.rd (fun _ => rfl)).keep ((k34.trans k45).alloc _)) ((n3.r4.rd (fun _ => rfl)).keep ((k34.trans k45).alloc _))).mono ?_
    rintro e w6 ⟨rfl, hb6⟩
    have k56 : Bw w5 w6 := (Bw.alloc (Bw.refl w5) _).trans hb6
    have G6 := Lib.hid ((NC.new w5 37 B5 N d5 T Z E5 R5 Q5 U5 N ce5 cr5 cq5 cu5).keep hb6)
    have v6 := k56.cellv v5
    have p6 := k56.cellv p5
    have M6 := Lib.hid (M0.out.keep k56)
    have k46 := k45.trans k56
    have k06 : Bw w w6 := k4.trans k46
    have rx6 := rd4.keep k46
    have row6 := row4.keep k46
    go_wp2_with fail
    go_region_held3 (fun W => W.cell? ⟨w.heap.size, 0, none⟩ = some (.slice A n c) ∧ W.cell? ⟨w4.heap.size, 0, none⟩ = some (.slice A4 n c4) ∧ Bw w6 W) (first | exact ⟨v6, p6, Bw.drew (Bw.refl _)⟩ | exact ⟨hb7.cellv s1, hb7.cellv s2, hb7b⟩ | exact ⟨hb8.cellv t1, hb8.cellv t2, hb8b⟩ | (simp_all; done)) (first | ((have hS := ‹World.cell? _ _ = _ ∧ World.cell? _ _ = _ ∧ Bw w6 _›); (obtain ⟨s1, s2, s3⟩ := hS); (go_at_call 7); refine (c_toTree _ _ _ ts _ hn (h.keep (k06.trans s3))).mono ?_; rintro e w7 ⟨⟨A7, c7, rfl, row7⟩, hb7⟩; have hb7b := Bw.trans s3 hb7) | ((have hS := ‹World.cell? _ _ = _ ∧ World.cell? _ _ = _ ∧ Bw w6 _›); (obtain ⟨t1, t2, t3⟩ := hS); (go_at_call 10); refine (c_eqTree _ _ _ _ _ ts _ hm (rx6.keep t3) (row7.rd (fun _ => rfl))).mono ?_; rintro e w8 ⟨rfl, hb8⟩; have hb8b := Bw.trans t3 hb8))
    have v8 := hb8b.cellv v6
    have p8 := hb8b.cellv p6
    have M8 := Lib.hid (M6.out.keep hb8b)
    have G8 := Lib.hid (G6.out.keep hb8b)
    have k58 : Bw w5 w8 := k56.trans hb8b
    have n8 := n5.keep k58
    have k38 : Bw w3 w8 := (k34.trans k45).trans k58
    go_wp2_with fail
    refine (n_markTree _ _ _ ts 1 _ _ hn (by omega) (by omega) (row6.keep hb8b)).mono ?_
    rintro e w9 ⟨rfl, _, hg9⟩
    have s45 : w4.heap.size + 1 ≤ w5.heap.size := by have := hb5.size; simpa using this
    have k39 : Bw w3 w9 := Bw.ofRow k38 hg9 (fun x hx => by have := (lt4 x hx).1; simp at this; omega)
    have M9 := Lib.hid (M8.out.far hg9 (fun x hx he => by have := (lt4 x hx).1; simp at this; omega))
    have G9 := Lib.hid (G8.out.far hg9 (fun x hx he => by have := (lt4 x hx).2; omega))
    have n9 := n8.off hg9 (fun x hx => by have := (lt4 x hx).2; simp; omega)
    have v9 := k39.cellv d3
    clear p8 v8 v6 p6 p5 v5
    have ⟨x0, x1, x2, x3, x4, x5, x6, x7, x8, x9, x10⟩ := M9.out
    have ⟨y0, y1, y2, y3, y4, y5, y6, y7, y8, y9, y10⟩ := G9.out
    go_wp2_with fail
    clear x0 x1 x2 x3 x4 x5 x6 x7 x8 x9 x10
    clear y0 y1 y2 y3 y4 y5 y6 y7 y8 y9 y10
    refine (n_eqNet T Z N N P _ _ _ B5 B E5 E R5 R Q5 Q U5 U d5 d ce5 ce cr5 cr cq5 cq cu5 cu _ (by omega) (by omega) ((n9.r0.rd (fun _ => rfl)).keep (Bw.refl _)) ((n9.r1.rd (fun _ => rfl)).keep (Bw.refl _)) ((n9.r2.rd (fun _ => rfl)).keep (Bw.refl _)) ((n9.r3.rd (fun _ => rfl)).keep (Bw.refl _)) ((n9.r4.rd (fun _ => rfl)).keep (Bw.refl _)) ((n3.r0.rd (fun _ => rfl)).keep (k39)) ((n3.r1.rd (fun _ => rfl)).keep (k39)) ((n3.r2.rd (fun _ => rfl)).keep (k39)) ((n3.r3.rd (fun _ => rfl)).keep (k39)) ((n3.r4.rd (fun _ => rfl)).keep (k39))).mono ?_
    rintro e w10 ⟨rfl, hb10⟩
    have G10 := Lib.hid (G9.out.keep hb10)
    have M10 := Lib.hid (M9.out.keep hb10)
    have n10 := n9.keep hb10
    have k310 := k39.trans hb10
    have z5 : w5.heap.size < w10.heap.size := World.block_lt_of_cell? w10 _ G10.out.c0
    have z4 : (w4.alloc (.cells #[.slice A4 n c4] 26)).heap.size ≤ w10.heap.size := by simp; omega
    have z3 : w3.heap.size + 1 ≤ w4.heap.size := by have := hb4.size; simpa using this
    have ⟨y0, y1, y2, y3, y4, y5, y6, y7, y8, y9, y10⟩ := G10.out
    go_wp2_with fail
    clear y0 y1 y2 y3 y4 y5 y6 y7 y8 y9 y10
    refine (n_markNet T Z N N _ P _ _ _ B5 E5 R5 Q5 U5 d5 ce5 cr5 cq5 cu5 1 _ hN hN (by omega) (by omega) z4 n10 w5.heap.size G10.out (fun x hx he => by have := (n5.r0.lt x hx).2; omega) (fun x hx he => by have := (n5.r1.lt x hx).2; omega) (fun x hx he => by have := (n5.r2.lt x hx).2; omega)).mono ?_
    rintro e w11 ⟨rfl, n11, hbl11, g11⟩
    have G11 := Lib.hid g11
    clear g11
    have M11 := Lib.hid (M10.out.below hbl11 (by simp; omega))
    have k311 : Bw w3 w11 := ⟨k310.b.trans (hbl11.mono (by simp; omega))⟩
    have v11 := k311.cellv d3
    have ⟨y0, y1, y2, y3, y4, y5, y6, y7, y8, y9, y10⟩ := G11.out
    go_wp2_with fail
    clear y0 y1 y2 y3 y4 y5 y6 y7 y8 y9 y10
    refine (n_heldNet T Z N N _ B5 E5 R5 Q5 U5 d5 ce5 cr5 cq5 cu5 1 _ hN hN (by omega) (by omega) (n11.r0.rd (fun _ => rfl)) (n11.r1.rd (fun _ => rfl)) (n11.r2.rd (fun _ => rfl)) (n11.r3.rd (fun _ => rfl)) (n11.r4.rd (fun _ => rfl))).mono ?_
    rintro e w12 ⟨rfl, hb12⟩
    have v12 := hb12.cellv v11
    have k312 := k311.trans hb12
    go_wp2_with fail
    refine (c_toTree _ _ _ ts _ hn (h.keep (k3.trans k312))).mono ?_
    rintro e w13 ⟨⟨A13, c13, rfl, row13⟩, hb13⟩
    go_wp2_with fail
    refine (HI.out _ _ _ hn (row13.rd (fun _ => rfl))).mono ?_
    rintro e w14 ⟨⟨B6, d6, E6, R6, Q6, U6, ce6, cr6, cq6, cu6, rfl, n14⟩, hb14⟩
    have k1114 : Bw w11 w14 := (hb12.trans hb13).trans hb14
    have M14 := M11.out.keep k1114
    have nx := fun o => M14.keep (Bw.alloc (Bw.refl w14) o)
    have x0 := fun o => (nx o).c0
    have x1 := fun o => (nx o).c1
    have x2 := fun o => (nx o).c2
    have x3 := fun o => (nx o).c3
    have x4 := fun o => (nx o).c4
    have x5 := fun o => (nx o).c5
    have x6 := fun o => (nx o).c6
    have x7 := fun o => (nx o).c7
    have x8 := fun o => (nx o).c8
    have x9 := fun o => (nx o).c9
    have x10 := fun o => (nx o).c10
    clear nx M14
    go_wp2_with fail
    clear x0 x1 x2 x3 x4 x5 x6 x7 x8 x9 x10
    refine (n_eqNet T Z N N P _ _ _ B6 B E6 E R6 R Q6 Q U6 U d6 d ce6 ce cr6 cr cq6 cq cu6 cu _ (by omega) (by omega) ((n14.r0.rd (fun _ => rfl)).keep (Bw.alloc (Bw.refl _) _)) ((n14.r1.rd (fun _ => rfl)).keep (Bw.alloc (Bw.refl _) _)) ((n14.r2.rd (fun _ => rfl)).keep (Bw.alloc (Bw.refl _) _)) ((n14.r3.rd (fun _ => rfl)).keep (Bw.alloc (Bw.refl _) _)) ((n14.r4.rd (fun _ => rfl)).keep (Bw.alloc (Bw.refl _) _)) ((n3.r0.rd (fun _ => rfl)).keep ((k311.trans k1114).alloc _)) ((n3.r1.rd (fun _ => rfl)).keep ((k311.trans k1114).alloc _)) ((n3.r2.rd (fun _ => rfl)).keep ((k311.trans k1114).alloc _)) ((n3.r3.rd (fun _ => rfl)).keep ((k311.trans k1114).alloc _)) ((n3.r4.rd (fun _ => rfl)).keep ((k311.trans k1114).alloc _))).mono ?_
    rintro e w15 ⟨rfl, hb15⟩
    have k1115 : Bw w11 w15 := (k1114.alloc _).trans hb15
    have G15 := Lib.hid (G11.out.keep k1115)
    have ⟨y0, y1, y2, y3, y4, y5, y6, y7, y8, y9, y10⟩ := G15.out
    go_wp2_with fail
    clear y0 y1 y2 y3 y4 y5 y6 y7 y8 y9 y10
    refine (n_heldNet T Z N N _ B5 E5 R5 Q5 U5 d5 ce5 cr5 cq5 cu5 1 _ hN hN (by omega) (by omega) ((n11.r0.rd (fun _ => rfl)).keep k1115) ((n11.r1.rd (fun _ => rfl)).keep k1115) ((n11.r2.rd (fun _ => rfl)).keep k1115) ((n11.r3.rd (fun _ => rfl)).keep k1115) ((n11.r4.rd (fun _ => rfl)).keep k1115)).mono ?_
    rintro e w16 ⟨rfl, hb16⟩
    go_wp2_with fail
    go_ret
    exact ⟨rfl, ((k3.trans k311).trans k1115).trans hb16⟩
end Go.Proofs.YtpjljbhodnlhmaaGreatDoor
