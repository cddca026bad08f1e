
/- The law FnExactNodesBelow: the walk. -/
import Derived.Test.YtnppdldppmcdpaaP6
namespace Go.Proofs.Ytnppdldppmcdpaa
open Go.RowKit
theorem c_markTree (A : Option Addr) (n c : Nat) (ts : List Int) (k0 : Int) (lo : Nat) (w : World) (hn : n ≤ 1048576) (hk0 : 0 ≤ k0) (hk1 : k0 ≤ 1000000000) (h : Row w lo 3 1 icell A n c ts) :
    Calls Try.prog 14 #[.agg #[.slice A n c], .int .i64 k0] w fun e w' => e = .returned (.int .i64 (k0 + n)) ∧ Row w' lo 3 1 icell A n c (marksI n k0) ∧ w.grownBy w' (Value.ownBlock (.slice A n c)) := by
  go_enter Try.func14, Try.ntmps14
  go_wp2_with (go_at_call 15; refine (c_markIntS _ _ _ ts k0 lo _ hn hk0 hk1 (h.keep (Bw.alloc (Bw.refl _) _))).mono ?_; rintro e w1 ⟨rfl, row1, hg1⟩)
  go_ret
  exact ⟨rfl, row1, ((Bw.alloc (Bw.refl w) _).toGrown.weaken).trans hg1⟩
set_option maxRecDepth 100000 in
set_option maxHeartbeats 1000000 in
theorem w_NodesBelow (A : Option Addr) (n c : Nat) (ts : List Int) (x : Int) (w : World) (hm : n ≤ 9223372036854775807) (h : Rd w A n 1 (ts.map icell)) :
    Calls Try.prog 4 #[.agg #[.slice A n c], .int .i64 x] w fun e w' => e = .returned (.bool true) ∧ Bw w w' := by
  have hlen : (belowR ts x).length ≤ n := by have := h.ilen; have := belowR_len ts x; omega
  generalize hR : belowR ts x = L at hlen
  generalize hB : nodeP ts x = rb
  have HR := Lib.hid hR
  have HB := Lib.hid hB
  clear hR hB
  go_enter Try.func4, Try.ntmps4
  go_wp2_with (go_at_call 6; refine (c_szTree _ _ _ hm _).mono ?_; rintro e w1 ⟨⟨m, rfl, hmm⟩, hb1⟩; have d1 := hb1.cellv (p := ⟨w.heap.size, 0, none⟩) (v := .slice A n c) (by go_simp))
  · go_ret
    exact ⟨rfl, Bw.trans (Bw.alloc (Bw.refl _) _) hb1⟩
  · have hn : n ≤ 1048576 := by omega
    have hL : L.length ≤ 9223372036854775807 := by omega
    have hL2 : L.length ≤ 1048576 := by omega
    clear hmm
    have k1 : Bw w w1 := Bw.trans (Bw.alloc (Bw.refl _) _) hb1
    have z1 : w.heap.size < w1.heap.size := World.block_lt_of_cell? w1 _ d1
    refine (c_toTree _ _ _ ts _ hn (h.keep k1)).mono ?_
    rintro e w2 ⟨⟨A2, c2, rfl, row2⟩, hb2⟩
    have d2 := hb2.cellv d1
    go_wp2_with fail
    refine (c_sNodesBelow _ _ _ ts x _ hm (row2.rd (fun _ => rfl))).mono ?_
    rw [HR.out, HB.out]
    rintro e w3 ⟨⟨Aw, cw, rfl, roww⟩, hb3⟩
    have rdw := roww.rd (fun _ => rfl)
    have d3 := hb3.cellv d2
    have k3 := (k1.trans hb2).trans hb3
    go_wp2_with fail
    refine (c_toTree _ _ _ ts _ hn (h.keep k3)).mono ?_
    rintro e w4 ⟨⟨Ax, cx, rfl, rowx⟩, hb4⟩
    have rdx := rowx.rd (fun _ => rfl)
    have ltx := rowx.lt
    have d4 := hb4.cellv d3
    have k4 := k3.trans hb4
    have z3 : w.heap.size < w3.heap.size := World.block_lt_of_cell? w3 _ d3
    go_wp2_with fail
    refine (c_iNodesBelow _ _ _ ts x _ hm (rdx.keep (Bw.alloc (Bw.refl _) _))).mono ?_
    rw [HR.out, HB.out]
    rintro e w5 ⟨⟨Ag, cg, rfl, rowg⟩, hb5⟩
    have rdg := rowg.rd (fun _ => rfl)
    have ltg := rowg.lt
    have p5 := hb5.cellv (p := ⟨w4.heap.size, 0, none⟩) (v := .slice Ax n cx) (by go_simp)
    have q45 : Bw w4 w5 := (Bw.alloc (Bw.refl w4) _).trans hb5
    have d5 := q45.cellv d4
    have k35 := hb4.trans q45
    go_wp2_with fail
    refine (c_eqIntS _ _ _ _ _ _ _ hL rdg (rdw.keep k35)).mono ?_
    rintro e w6 ⟨rfl, hb6⟩
    have d6 := hb6.cellv d5
    have p6 := hb6.cellv p5
    go_wp2_with fail
    go_region_held3 (fun W => W.cell? ⟨w.heap.size, 0, none⟩ = some (.slice A n c) ∧ W.cell? ⟨w4.heap.size, 0, none⟩ = some (.slice Ax n cx) ∧ Bw w6 W) (first | exact ⟨d6, p6, Bw.drew (Bw.refl _)⟩ | exact ⟨hb7.cellv s1, hb7.cellv s2, hb7b⟩ | exact ⟨hb8.cellv t1, hb8.cellv t2, hb8b⟩ | (simp_all; done)) (first | ((have hS := ‹World.cell? _ _ = _ ∧ World.cell? _ _ = _ ∧ Bw w6 _›); (obtain ⟨s1, s2, s3⟩ := hS); (go_at_call 8); refine (c_toTree _ _ _ ts _ hn (h.keep (((k4.trans q45).trans hb6).trans s3))).mono ?_; rintro e w7 ⟨⟨A7, c7, rfl, row7⟩, hb7⟩; have hb7b := Bw.trans s3 hb7) | ((have hS := ‹World.cell? _ _ = _ ∧ World.cell? _ _ = _ ∧ Bw w6 _›); (obtain ⟨t1, t2, t3⟩ := hS); (go_at_call 10); refine (c_eqTree _ _ _ _ _ ts _ hm (((rdx.keep q45).keep hb6).keep t3) (row7.rd (fun _ => rfl))).mono ?_; rintro e w8 ⟨rfl, hb8⟩; have hb8b := Bw.trans t3 hb8))
    have q58 : Bw w5 w8 := hb6.trans hb8b
    have d8 := q58.cellv d5
    have p8 := q58.cellv p5
    go_wp2_with fail
    refine (c_markTree _ _ _ ts 1 _ _ hn (by omega) (by omega) ((rowx.keep q45).keep q58)).mono ?_
    rintro e w9 ⟨rfl, rowx9, hg9⟩
    have k39 : Bw w3 w9 := Bw.ofRow (k35.trans q58) hg9 (fun x hx => (ltx x hx).1)
    have hne : ∀ g : Nat, g < w3.heap.size ∨ w4.heap.size ≤ g → Value.ownBlock (.slice Ax n cx) ≠ some g := fun g hg he => by
      cases Ax with
      | none => simp [Value.ownBlock] at he
      | some y =>
        have h1 := ltx y rfl
        simp only [Value.ownBlock, Option.some.injEq] at he
        omega
    have rowg9 := (rowg.keep q58).grown hg9 (fun x hx => hne _ (.inr (by have := (ltg x hx).1; simp at this; omega)))
    have rdg9 := rowg9.rd (fun _ => rfl)
    have d9 := (hg9.cell_far ⟨w.heap.size, 0, none⟩ (World.block_lt_of_cell? w8 _ d8) (fun he => hne _ (.inl z3) he.symm)).trans d8
    go_wp2_with fail
    refine (c_eqIntS _ _ _ _ _ _ _ hL rdg9 (rdw.keep k39)).mono ?_
    rintro e w10 ⟨rfl, hb10⟩
    have d10 := hb10.cellv d9
    go_wp2_with fail
    refine (c_markIntS _ _ _ _ 1 _ _ hL2 (by omega) (by omega) (rowg9.keep hb10)).mono ?_
    rintro e w11 ⟨rfl, rowg11, hg11⟩
    have k311 : Bw w3 w11 := Bw.ofRow (k39.trans hb10) hg11 (fun x hx => by have h1 := (ltg x hx).1; have h2 := hb4.size; simp at h1; omega)
    have rdg11 := rowg11.rd (fun _ => rfl)
    have d11 := k311.cellv d3
    go_wp2_with fail
    refine (c_heldIntS _ _ _ 1 _ hL2 (by omega) (by omega) rdg11).mono ?_
    rintro e _ ⟨rfl, rfl⟩
    go_wp2_with fail
    refine (c_toTree _ _ _ ts _ hn (h.keep (k3.trans k311))).mono ?_
    rintro e w12 ⟨⟨A12, c12, rfl, row12⟩, hb12⟩
    go_wp2_with fail
    refine (c_iNodesBelow _ _ _ ts x _ hm (row12.rd (fun _ => rfl))).mono ?_
    rw [HR.out, HB.out]
    rintro e w13 ⟨⟨Ah, ch, rfl, rowh⟩, hb13⟩
    have rdh := rowh.rd (fun _ => rfl)
    have b1113 := hb12.trans hb13
    go_wp2_with fail
    refine (c_eqIntS _ _ _ _ _ _ _ hL rdh (rdw.keep (k311.trans b1113))).mono ?_
    rintro e w14 ⟨rfl, hb14⟩
    go_wp2_with fail
    refine (c_heldIntS _ _ _ 1 _ hL2 (by omega) (by omega) (rdg11.keep (b1113.trans hb14))).mono ?_
    rintro e _ ⟨rfl, rfl⟩
    go_wp2_with fail
    go_ret
    exact ⟨rfl, ((k3.trans k311).trans b1113).trans hb14⟩
end Go.Proofs.Ytnppdldppmcdpaa
