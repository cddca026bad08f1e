
/- A new leaf: both sides. -/
import Derived.Test.YthciecmofgoebaaGreatDoorM8
import Derived.Deep.RegionHeldLaw
namespace Go.Proofs.YthciecmofgoebaaGreatDoor
open Go.RowKit
def addC (ps : List Int) (x : Int) : Bool := nodeP ps x && !decide (ps.length = 8)
def addR (ps : List Int) (x : Int) : List Int := if addC ps x then ps ++ [x] else []
def addN (ps : List Int) (x : Int) : Int := if addC ps x then ps.length else 0
theorem add_no {ps : List Int} {x : Int} (h : addC ps x = false) : addR ps x = [] ∧ addN ps x = 0 := by simp [addR, addN, h]
theorem add_yes {ps : List Int} {x : Int} (h : addC ps x = true) : addR ps x = ps ++ [x] ∧ addN ps x = ps.length := by simp [addR, addN, h]
theorem addR_len {ps : List Int} {x : Int} (hg : ps.length ≤ 9) : (addR ps x).length ≤ 10 := by
  unfold addR; split
  · simp; omega
  · simp
theorem intAt_app {ps : List Int} {x : Int} {j : Nat} (h : j < ps.length) : intAt (ps ++ [x]) j = intAt ps j := by
  simp [intAt, List.getElem?_append_left h]
theorem intAt_last (ps : List Int) (x : Int) : intAt (ps ++ [x]) ps.length = x := by simp [intAt]
/-- What a new leaf gives. -/
theorem add_facts {ps : List Int} {x : Int} (h : addC ps x = true) : goodP (ps ++ [x]) = true ∧ nodeP (ps ++ [x]) x = true ∧ hasI (childR (ps ++ [x]) x) ps.length = true ∧ hasI (leafR (ps ++ [x])) ps.length = true ∧ hasI (leafR (ps ++ [x])) x = false := by
  simp only [addC, Bool.and_eq_true, Bool.not_eq_true', decide_eq_false_iff_not] at h
  have hr := node_range h.1
  have ⟨⟨l2, l8⟩, hs⟩ := goodP_iff.1 hr.1
  have hg : goodP (ps ++ [x]) = true := by
    refine goodP_iff.2 ⟨by simp; omega, fun j hj => ?_⟩
    simp only [List.length_append, List.length_singleton] at hj
    rcases Nat.lt_succ_iff_lt_or_eq.1 hj with hj | rfl
    · have := hs j hj
      unfold stepP at this ⊢
      rw [intAt_app hj, intAt_app (by omega)]
      exact this
    · unfold stepP
      rw [if_neg (by omega), intAt_last]
      exact inR_mk (by omega)
  have hn : nodeP (ps ++ [x]) x = true := node_of hg hr.2.1 (by simp; omega)
  refine ⟨hg, hn, ?_, ?_, ?_⟩
  · rw [childR, if_pos hn]
    have hm : (ps.length : Int) ∈ childTo (ps ++ [x]) x (ps ++ [x]).length := by
      simp only [childTo, List.mem_map, List.mem_filter, List.mem_range]
      exact ⟨ps.length, ⟨by simp, by rw [intAt_last]; simp⟩, rfl⟩
    simpa [hasI] using hm
  · rw [leafR, if_pos hg]
    simp only [hasI, decide_eq_true_eq]
    rw [leafTo_mem]
    refine ⟨ps.length, by simp, hasI_none fun j hj e => ?_, rfl⟩
    have := goodP_lt hg hj
    simp only [List.length_append, List.length_singleton] at hj
    rcases Nat.lt_succ_iff_lt_or_eq.1 hj with hj | rfl
    · omega
    · rw [intAt_last] at e; omega
  · rw [leafR, if_pos hg]
    simp only [hasI, decide_eq_false_iff_not]
    rw [leafTo_mem]
    rintro ⟨i, _, h1, rfl⟩
    rw [hasI_at (k := ps.length) (by simp) (intAt_last _ _)] at h1
    cases h1
set_option maxRecDepth 100000 in
set_option maxHeartbeats 1000000 in
theorem c_iAddLeaf (A : Option Addr) (n c : Nat) (ps : List Int) (x : Int) (w : World) (hn : n ≤ 1000) (h : Rd w A n 1 (ps.map icell)) :
    Calls Tryz.prog 14 #[.agg #[.slice A n c], .int .i64 x] w fun e w' => (∃ A' c', e = .returned (.tuple #[.agg #[.slice A' (addR ps x).length c'], .int .i64 (addN ps x), .bool (addC ps x)]) ∧ Row w' w.heap.size 3 1 icell A' (addR ps x).length c' (addR ps x)) ∧ Bw w w' := by
  have hl := Lib.hid h.ilen
  have hab := allIn_one n x
  have hbw2 := (((Bw.refl w).alloc (.cells #[.slice A n c] 26)).alloc (.cells #[.slice none 0 0] 26))
  have hbx := hbw2.alloc (.cells #[.int .i64 x] 3)
  obtain ⟨i0, hi, hz0, hz1, hz2⟩ := info_parts infoInt
  have Hi := Lib.hid hi
  have Hz0 := Lib.hid hz0
  have Hz1 := Lib.hid hz1
  have Hz2 := Lib.hid hz2
  clear hi hz0 hz1 hz2
  have HX := Lib.hid (fun r hr => c_hasNodes A n c ps (some ⟨w.heap.size + 2, 0, none⟩) 1 1 [x] (r := r) hr _ (by omega) (by omega) (h.keep hbx) (by have := Rd.litI ((w.alloc (.cells #[.slice A n c] 26)).alloc (.cells #[.slice none 0 0] 26)) [x] #[.int .i64 x] 3 1 rfl rfl; simpa using this))
  cases hC : nodeP ps x
  · have HA := Lib.hid (show addC ps x = false by simp [addC, hC])
    have HR := Lib.hid (add_no HA.out)
    have HN := Lib.hid (show (goodP ps && allIn n [x]) = false by rw [hab, ← hC, nodeP, hl.out])
    clear hab hC
    go_enter Tryz.func14, Tryz.ntmps14
    go_wp2_with fail
    refine (HX.out _ HN.out).mono ?_
    rintro e w1 ⟨rfl, hb1⟩
    have hbw1 := hbx.trans hb1
    have r1 := hb1.cellv (p := ⟨w.heap.size + 1, 0, none⟩) (v := .slice none 0 0) (by go_simp)
    have rf1 : w1.frozen? ⟨w.heap.size + 1, 0, none⟩ = false := (hb1.frz ⟨w.heap.size + 1, 0, none⟩ (by simp)).trans (by go_simp)
    go_wp2_with fail
    (try simp only [Exit.inBlock, Exit.then])
    refine bodyPost_ret (v := .tuple #[.agg #[.slice none 0 0], .int .i64 0, .bool false]) (by simp [results, Tryz.results14, go_sem, r1]) rfl ⟨⟨none, 0, by rw [HA.out, HR.out.1, HR.out.2]; rfl, by rw [HR.out.1]; exact Row.nil _ _ _ _ _⟩, hbw1.setCell (by simp) _⟩
  · have HN := Lib.hid (show (goodP ps && allIn n [x]) = true by rw [hab, ← hC, nodeP, hl.out])
    have h8 := (goodP_iff.1 (node_range hC).1).1.2
    rw [hl.out] at h8
    by_cases h88 : n = 8
    · have HA := Lib.hid (show addC ps x = false by simp [addC, hl.out, h88])
      have HR := Lib.hid (add_no HA.out)
      have hi8 : ((n : Int) == 8) = true := by rw [h88]; rfl
      clear hab hC h88
      go_enter Tryz.func14, Tryz.ntmps14
      go_wp2_with fail
      refine (HX.out _ HN.out).mono ?_
      rintro e w1 ⟨rfl, hb1⟩
      have hbw1 := hbx.trans hb1
      have r1 := hb1.cellv (p := ⟨w.heap.size + 1, 0, none⟩) (v := .slice none 0 0) (by go_simp)
      have d1 := hb1.cellv (p := ⟨w.heap.size, 0, none⟩) (v := .slice A n c) (by go_simp)
      have rf1 : w1.frozen? ⟨w.heap.size + 1, 0, none⟩ = false := (hb1.frz ⟨w.heap.size + 1, 0, none⟩ (by simp)).trans (by go_simp)
      go_wp2_with fail
      (try simp only [Exit.inBlock, Exit.then])
      refine bodyPost_ret (v := .tuple #[.agg #[.slice none 0 0], .int .i64 0, .bool false]) (by simp [results, Tryz.results14, go_sem, r1]) rfl ⟨⟨none, 0, by rw [HA.out, HR.out.1, HR.out.2]; rfl, by rw [HR.out.1]; exact Row.nil _ _ _ _ _⟩, hbw1.setCell (by simp) _⟩
    · have HA := Lib.hid (show addC ps x = true by simp [addC, hC, hl.out, h88])
      have HR := Lib.hid (add_yes HA.out)
      have hi8 : ((n : Int) == 8) = false := by rw [beq_eq_false_iff_ne]; omega
      clear hab hC h88
      go_enter Tryz.func14, Tryz.ntmps14
      go_wp2_with fail
      refine (HX.out _ HN.out).mono ?_
      rintro e w1 ⟨rfl, hb1⟩
      have hbw1 := hbx.trans hb1
      have r1 := hb1.cellv (p := ⟨w.heap.size + 1, 0, none⟩) (v := .slice none 0 0) (by go_simp)
      have d1 := hb1.cellv (p := ⟨w.heap.size, 0, none⟩) (v := .slice A n c) (by go_simp)
      have rf1 : w1.frozen? ⟨w.heap.size + 1, 0, none⟩ = false := (hb1.frz ⟨w.heap.size + 1, 0, none⟩ (by simp)).trans (by go_simp)
      have hl1 : w.heap.size + 1 < w1.heap.size := World.block_lt_of_cell? w1 ⟨w.heap.size + 1, 0, none⟩ r1
      have HCl := Lib.hid (fun W (hb : Bw w1 W) => c_CloneInt A n c ps W (by omega) (h.keep (hbw1.trans hb)))
      have e1 : ∀ o, (w1.alloc o).cell? ⟨w.heap.size, 0, none⟩ = some (.slice A n c) := fun o => ((Bw.refl w1).alloc o).cellv d1
      go_wp2_with fail
      go_region_held_law (fun W => W.cell? ⟨w.heap.size, 0, none⟩ = some (.slice A n c)) (first | exact d4 | exact d3 | exact e3 _ | exact e1 _ | (refine (World.cell?_setCell_other _ _ _ _ ?_).trans d4; simp; done) | (refine Bw.cellv (a := w1) ?_ d1; (repeat (first | with_reducible assumption | exact Bw.refl _ | (with_reducible refine Bw.setCell ?_ (by simp) _) | (with_reducible refine Bw.alloc ?_ _) | (with_reducible refine Bw.drew ?_) | (with_reducible refine Bw.drewN ?_ _))); done) | (simp [go_sem, *]; done)) (first | (go_simp; go_at_call 34; refine (HCl.out _ (by (repeat (first | with_reducible assumption | exact Bw.refl _ | (with_reducible refine Bw.setCell ?_ (by simp) _) | (with_reducible refine Bw.alloc ?_ _) | (with_reducible refine Bw.drew ?_) | (with_reducible refine Bw.drewN ?_ _))))).mono ?_; rintro e w3 ⟨⟨B, cB, rfl, row3⟩, hb3⟩; have hbW := Bw.trans (by (repeat (first | with_reducible assumption | exact Bw.refl _ | (with_reducible refine Bw.setCell ?_ (by simp) _) | (with_reducible refine Bw.alloc ?_ _) | (with_reducible refine Bw.drew ?_) | (with_reducible refine Bw.drewN ?_ _))) : Bw w1 _) hb3; have hB : ∀ y, B = some y → w1.heap.size ≤ y.block := fun y hy => (by have := (row3.lt y hy).1; simp at this; omega); replace row3 := row3.mono (lo' := w.heap.size + 2) (by simp; omega); have hs3 := hbW.size; have r3 := hbW.cellv r1; have d3 := hbW.cellv d1; have e3 : ∀ o, (w3.alloc o).cell? ⟨w.heap.size, 0, none⟩ = some (.slice A n c) := fun o => (hbW.alloc o).cellv d1; have f3 := (hbW.frz ⟨w.heap.size + 1, 0, none⟩ hl1).trans rf1) | ((refine step_append_rd (enc := icell) ?_ (.tmp 21) (.tmp 23) 24 ?_ (w.heap.size + 2) 3 i0 (.int .i64 0) 1 8 Tryz.underlying24 Hi.out Hz0.out Hz1.out Hz2.out rfl ?_ (fun _ => rfl) oneInt B n cB ps ?_ ?_ (some ⟨w3.heap.size, 0, none⟩) 1 1 [x] ?_ ?_ ?_ ?_ ?_ ?_); (focus rfl); (focus rfl); (focus decide); (focus rfl); (focus (first | exact row3 | exact row3.keep ((Bw.refl _).alloc _))); (focus rfl); (focus (first | exact Rd.one w3 #[.int .i64 x] 3 x 1 rfl | exact (Rd.one w1 #[.int .i64 x] 3 x 1 rfl).keep (((Bw.refl _).drew).trans hb3))); (focus (unfold maxLen; omega)); (focus omega); (focus (first | omega | (simp only [World.size_alloc]; omega))); (intro A2 c2 w4 row4 hg4 hmv4 hnn4); (first | (have hk4 : Bw w1 w4 := Bw.ofRow hbW hg4 hB) | (have hk4 : Bw w1 w4 := Bw.ofRow (hbW.alloc _) hg4 hB)); (have r4 := hk4.cellv r1); (have d4 := hk4.cellv d1); (have f4 := (hk4.frz ⟨w.heap.size + 1, 0, none⟩ hl1).trans rf1)) | ((refine step_append_rd (enc := icell) ?_ (.tmp 21) (.tmp 23) 24 ?_ (w.heap.size + 2) 3 i0 (.int .i64 0) 1 8 Tryz.underlying24 Hi.out Hz0.out Hz1.out Hz2.out rfl ?_ (fun _ => rfl) oneInt B n cB ps ?_ ?_ (some ⟨w1.heap.size, 0, none⟩) 1 1 [x] ?_ ?_ ?_ ?_ ?_ ?_); (focus rfl); (focus rfl); (focus decide); (focus rfl); (focus (first | exact row3 | exact row3.keep ((Bw.refl _).alloc _))); (focus rfl); (focus (first | exact Rd.one w3 #[.int .i64 x] 3 x 1 rfl | exact (Rd.one w1 #[.int .i64 x] 3 x 1 rfl).keep (((Bw.refl _).drew).trans hb3))); (focus (unfold maxLen; omega)); (focus omega); (focus (first | omega | (simp only [World.size_alloc]; omega))); (intro A2 c2 w4 row4 hg4 hmv4 hnn4); (first | (have hk4 : Bw w1 w4 := Bw.ofRow hbW hg4 hB) | (have hk4 : Bw w1 w4 := Bw.ofRow (hbW.alloc _) hg4 hB)); (have r4 := hk4.cellv r1); (have d4 := hk4.cellv d1); (have f4 := (hk4.frz ⟨w.heap.size + 1, 0, none⟩ hl1).trans rf1)))
      all_goals
        go_wp2
        (try simp only [Exit.inBlock, Exit.then])
        refine bodyPost_ret (v := .tuple #[.agg #[.slice A2 (n + 1) c2], .int .i64 n, .bool true]) (by simp [results, Tryz.results14, go_sem, r4]) rfl ⟨⟨A2, c2, by rw [HA.out, HR.out.1, HR.out.2, List.length_append, hl.out]; rfl, by rw [HR.out.1, List.length_append, hl.out]; exact (row4.grown (setCell_grown w4 (w.heap.size + 1) (.slice A2 (n + 1) c2)) (fun y hy he => by have := (row4.lt y hy).1; simp at he; omega)).mono (by omega)⟩, (hbw1.trans hk4).setCell (by simp) _⟩
set_option maxRecDepth 100000 in
set_option maxHeartbeats 1000000 in
theorem c_sAddLeaf (A : Option Addr) (n c : Nat) (ps : List Int) (x : Int) (w : World) (hn : n ≤ 1000) (h : Rd w A n 1 (ps.map icell)) :
    Calls Tryz.prog 15 #[.agg #[.slice A n c], .int .i64 x] w fun e w' => (∃ A' c', e = .returned (.tuple #[.agg #[.slice A' (addR ps x).length c'], .int .i64 (addN ps x), .bool (addC ps x)]) ∧ Row w' w.heap.size 3 1 icell A' (addR ps x).length c' (addR ps x)) ∧ Bw w w' := by
  have hl := Lib.hid h.ilen
  have hbw2 := (((Bw.refl w).alloc (.cells #[.slice A n c] 26)).alloc (.cells #[.slice none 0 0] 26))
  obtain ⟨i0, hi, hz0, hz1, hz2⟩ := info_parts infoInt
  have Hi := Lib.hid hi
  have Hz0 := Lib.hid hz0
  have Hz1 := Lib.hid hz1
  have Hz2 := Lib.hid hz2
  clear hi hz0 hz1 hz2
  cases hC : nodeP ps x
  · have HA := Lib.hid (show addC ps x = false by simp [addC, hC])
    have HR := Lib.hid (add_no HA.out)
    have HN := Lib.hid hC
    clear hC
    go_enter Tryz.func15, Tryz.ntmps15
    go_wp2_with fail
    refine (c_l6Node _ _ _ ps x HN.out _ (by omega) (h.keep hbw2)).mono ?_
    rintro e w1 ⟨rfl, hb1⟩
    have hbw1 := hbw2.trans hb1
    have r1 := hb1.cellv (p := ⟨w.heap.size + 1, 0, none⟩) (v := .slice none 0 0) (by go_simp)
    have rf1 : w1.frozen? ⟨w.heap.size + 1, 0, none⟩ = false := (hb1.frz ⟨w.heap.size + 1, 0, none⟩ (by simp)).trans (by go_simp)
    go_wp2_with fail
    (try simp only [Exit.inBlock, Exit.then])
    refine bodyPost_ret (v := .tuple #[.agg #[.slice none 0 0], .int .i64 0, .bool false]) (by simp [results, Tryz.results15, go_sem, r1]) rfl ⟨⟨none, 0, by rw [HA.out, HR.out.1, HR.out.2]; rfl, by rw [HR.out.1]; exact Row.nil _ _ _ _ _⟩, hbw1.setCell (by simp) _⟩
  · have HN := Lib.hid hC
    have h8 := (goodP_iff.1 (node_range hC).1).1.2
    rw [hl.out] at h8
    by_cases h88 : n = 8
    · have HA := Lib.hid (show addC ps x = false by simp [addC, hl.out, h88])
      have HR := Lib.hid (add_no HA.out)
      have hi8 : ((n : Int) == 8) = true := by rw [h88]; rfl
      clear hC h88
      go_enter Tryz.func15, Tryz.ntmps15
      go_wp2_with fail
      refine (c_l6Node _ _ _ ps x HN.out _ (by omega) (h.keep hbw2)).mono ?_
      rintro e w1 ⟨rfl, hb1⟩
      have hbw1 := hbw2.trans hb1
      have r1 := hb1.cellv (p := ⟨w.heap.size + 1, 0, none⟩) (v := .slice none 0 0) (by go_simp)
      have d1 := hb1.cellv (p := ⟨w.heap.size, 0, none⟩) (v := .slice A n c) (by go_simp)
      have rf1 : w1.frozen? ⟨w.heap.size + 1, 0, none⟩ = false := (hb1.frz ⟨w.heap.size + 1, 0, none⟩ (by simp)).trans (by go_simp)
      go_wp2_with fail
      (try simp only [Exit.inBlock, Exit.then])
      refine bodyPost_ret (v := .tuple #[.agg #[.slice none 0 0], .int .i64 0, .bool false]) (by simp [results, Tryz.results15, go_sem, r1]) rfl ⟨⟨none, 0, by rw [HA.out, HR.out.1, HR.out.2]; rfl, by rw [HR.out.1]; exact Row.nil _ _ _ _ _⟩, hbw1.setCell (by simp) _⟩
    · have HA := Lib.hid (show addC ps x = true by simp [addC, hC, hl.out, h88])
      have HR := Lib.hid (add_yes HA.out)
      have hi8 : ((n : Int) == 8) = false := by rw [beq_eq_false_iff_ne]; omega
      clear hC h88
      go_enter Tryz.func15, Tryz.ntmps15
      go_wp2_with fail
      refine (c_l6Node _ _ _ ps x HN.out _ (by omega) (h.keep hbw2)).mono ?_
      rintro e w1 ⟨rfl, hb1⟩
      have hbw1 := hbw2.trans hb1
      have r1 := hb1.cellv (p := ⟨w.heap.size + 1, 0, none⟩) (v := .slice none 0 0) (by go_simp)
      have d1 := hb1.cellv (p := ⟨w.heap.size, 0, none⟩) (v := .slice A n c) (by go_simp)
      have rf1 : w1.frozen? ⟨w.heap.size + 1, 0, none⟩ = false := (hb1.frz ⟨w.heap.size + 1, 0, none⟩ (by simp)).trans (by go_simp)
      have hl1 : w.heap.size + 1 < w1.heap.size := World.block_lt_of_cell? w1 ⟨w.heap.size + 1, 0, none⟩ r1
      have HCl := Lib.hid (fun W (hb : Bw w1 W) => c_l1Own A n c ps W (by omega) (h.keep (hbw1.trans hb)))
      have e1 : ∀ o, (w1.alloc o).cell? ⟨w.heap.size, 0, none⟩ = some (.slice A n c) := fun o => ((Bw.refl w1).alloc o).cellv d1
      go_wp2_with fail
      go_region_held_law (fun W => W.cell? ⟨w.heap.size, 0, none⟩ = some (.slice A n c)) (first | exact d4 | exact d3 | exact e3 _ | exact e1 _ | (refine (World.cell?_setCell_other _ _ _ _ ?_).trans d4; simp; done) | (refine Bw.cellv (a := w1) ?_ d1; (repeat (first | with_reducible assumption | exact Bw.refl _ | (with_reducible refine Bw.setCell ?_ (by simp) _) | (with_reducible refine Bw.alloc ?_ _) | (with_reducible refine Bw.drew ?_) | (with_reducible refine Bw.drewN ?_ _))); done) | (simp [go_sem, *]; done)) (first | (go_simp; go_at_call 36; refine (HCl.out _ (by (repeat (first | with_reducible assumption | exact Bw.refl _ | (with_reducible refine Bw.setCell ?_ (by simp) _) | (with_reducible refine Bw.alloc ?_ _) | (with_reducible refine Bw.drew ?_) | (with_reducible refine Bw.drewN ?_ _))))).mono ?_; rintro e w3 ⟨⟨B, cB, rfl, row3⟩, hb3⟩; have hbW := Bw.trans (by (repeat (first | with_reducible assumption | exact Bw.refl _ | (with_reducible refine Bw.setCell ?_ (by simp) _) | (with_reducible refine Bw.alloc ?_ _) | (with_reducible refine Bw.drew ?_) | (with_reducible refine Bw.drewN ?_ _))) : Bw w1 _) hb3; have hB : ∀ y, B = some y → w1.heap.size ≤ y.block := fun y hy => (by have := (row3.lt y hy).1; simp at this; omega); replace row3 := row3.mono (lo' := w.heap.size + 2) (by simp; omega); have hs3 := hbW.size; have r3 := hbW.cellv r1; have d3 := hbW.cellv d1; have e3 : ∀ o, (w3.alloc o).cell? ⟨w.heap.size, 0, none⟩ = some (.slice A n c) := fun o => (hbW.alloc o).cellv d1; have f3 := (hbW.frz ⟨w.heap.size + 1, 0, none⟩ hl1).trans rf1) | ((refine step_append_rd (enc := icell) ?_ (.tmp 20) (.tmp 22) 24 ?_ (w.heap.size + 2) 3 i0 (.int .i64 0) 1 8 Tryz.underlying24 Hi.out Hz0.out Hz1.out Hz2.out rfl ?_ (fun _ => rfl) oneInt B n cB ps ?_ ?_ (some ⟨w3.heap.size, 0, none⟩) 1 1 [x] ?_ ?_ ?_ ?_ ?_ ?_); (focus rfl); (focus rfl); (focus decide); (focus rfl); (focus (first | exact row3 | exact row3.keep ((Bw.refl _).alloc _))); (focus rfl); (focus (first | exact Rd.one w3 #[.int .i64 x] 3 x 1 rfl | exact (Rd.one w1 #[.int .i64 x] 3 x 1 rfl).keep (((Bw.refl _).drew).trans hb3))); (focus (unfold maxLen; omega)); (focus omega); (focus (first | omega | (simp only [World.size_alloc]; omega))); (intro A2 c2 w4 row4 hg4 hmv4 hnn4); (first | (have hk4 : Bw w1 w4 := Bw.ofRow hbW hg4 hB) | (have hk4 : Bw w1 w4 := Bw.ofRow (hbW.alloc _) hg4 hB)); (have r4 := hk4.cellv r1); (have d4 := hk4.cellv d1); (have f4 := (hk4.frz ⟨w.heap.size + 1, 0, none⟩ hl1).trans rf1)) | ((refine step_append_rd (enc := icell) ?_ (.tmp 20) (.tmp 22) 24 ?_ (w.heap.size + 2) 3 i0 (.int .i64 0) 1 8 Tryz.underlying24 Hi.out Hz0.out Hz1.out Hz2.out rfl ?_ (fun _ => rfl) oneInt B n cB ps ?_ ?_ (some ⟨w1.heap.size, 0, none⟩) 1 1 [x] ?_ ?_ ?_ ?_ ?_ ?_); (focus rfl); (focus rfl); (focus decide); (focus rfl); (focus (first | exact row3 | exact row3.keep ((Bw.refl _).alloc _))); (focus rfl); (focus (first | exact Rd.one w3 #[.int .i64 x] 3 x 1 rfl | exact (Rd.one w1 #[.int .i64 x] 3 x 1 rfl).keep (((Bw.refl _).drew).trans hb3))); (focus (unfold maxLen; omega)); (focus omega); (focus (first | omega | (simp only [World.size_alloc]; omega))); (intro A2 c2 w4 row4 hg4 hmv4 hnn4); (first | (have hk4 : Bw w1 w4 := Bw.ofRow hbW hg4 hB) | (have hk4 : Bw w1 w4 := Bw.ofRow (hbW.alloc _) hg4 hB)); (have r4 := hk4.cellv r1); (have d4 := hk4.cellv d1); (have f4 := (hk4.frz ⟨w.heap.size + 1, 0, none⟩ hl1).trans rf1)))
      all_goals
        go_wp2
        (try simp only [Exit.inBlock, Exit.then])
        refine bodyPost_ret (v := .tuple #[.agg #[.slice A2 (n + 1) c2], .int .i64 n, .bool true]) (by simp [results, Tryz.results15, go_sem, r4]) rfl ⟨⟨A2, c2, by rw [HA.out, HR.out.1, HR.out.2, List.length_append, hl.out]; rfl, by rw [HR.out.1, List.length_append, hl.out]; exact (row4.grown (setCell_grown w4 (w.heap.size + 1) (.slice A2 (n + 1) c2)) (fun y hy he => by have := (row4.lt y hy).1; simp at he; omega)).mono (by omega)⟩, (hbw1.trans hk4).setCell (by simp) _⟩
end Go.Proofs.YthciecmofgoebaaGreatDoor
