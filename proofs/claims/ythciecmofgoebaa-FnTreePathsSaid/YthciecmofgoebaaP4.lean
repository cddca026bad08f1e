
/- MeetingNode: both sides come to one function. -/
import Derived.Test.YthciecmofgoebaaP3
import Derived.Deep.RegionHeld3
namespace Go.Proofs.Ythciecmofgoebaa
open Go.RowKit
def meetTo (pb pa : List Int) (k : Nat) : Int := (pa.take k).foldl (fun m x => if hasI pb x then x else m) 0
theorem meetTo_zero (pb pa : List Int) : meetTo pb pa 0 = 0 := by simp [meetTo]
theorem meetTo_yes {pb pa : List Int} {k : Nat} (hk : k < pa.length) (h : hasI pb (intAt pa k) = true) : meetTo pb pa (k + 1) = intAt pa k := by
  rw [meetTo, List.take_succ_eq_append_getElem hk, List.foldl_append, ← intAt_lt hk]; simp [h]
theorem meetTo_no {pb pa : List Int} {k : Nat} (hk : k < pa.length) (h : hasI pb (intAt pa k) = false) : meetTo pb pa (k + 1) = meetTo pb pa k := by
  rw [meetTo, List.take_succ_eq_append_getElem hk, List.foldl_append, ← intAt_lt hk]; simp [h, meetTo]
def meetC (ps : List Int) (a b : Int) : Bool := goodP ps && (inR a 0 ((ps.length : Int) - 1) && inR b 0 ((ps.length : Int) - 1))
def meetN (ps : List Int) (a b : Int) : Int := if meetC ps a b then meetTo (pathP ps b) (pathP ps a) (pathP ps a).length else 0
theorem meetC_nodes (ps : List Int) (a b : Int) : meetC ps a b = (nodeP ps a && nodeP ps b) := by
  unfold meetC nodeP; cases goodP ps <;> simp
set_option maxRecDepth 100000 in
theorem c_sMeetingNode (A : Option Addr) (n c : Nat) (ps : List Int) (a b : Int) {m : Int} {r : Bool} (hmt : meetN ps a b = m) (hr : meetC ps a b = r) (w : World) (hn : n ≤ 9223372036854775807) (h : Rd w A n 1 (ps.map icell)) :
    Calls Try.prog 15 #[.agg #[.slice A n c], .int .i64 a, .int .i64 b] w fun e w' => e = .returned (.tuple #[.int .i64 m, .bool r]) ∧ Bw w w' := by
  have hl := Lib.hid h.ilen
  cases ha : nodeP ps a
  · have HR := Lib.hid (show m = 0 ∧ r = false by rw [← hmt, ← hr, meetN, meetC_nodes, ha]; simp)
    clear hmt hr
    go_enter Try.func15, Try.ntmps15
    go_wp2_with (go_at_call 23; refine (c_l6Node _ _ _ ps a ha _ hn (h.keep (Bw.alloc (Bw.refl _) _))).mono ?_; rintro e w1 ⟨rfl, hb1⟩)
    go_ret2
    rw [HR.out.1, HR.out.2]
    exact ⟨rfl, Bw.trans (Bw.alloc (Bw.refl _) _) hb1⟩
  · cases hb : nodeP ps b
    · have HR := Lib.hid (show m = 0 ∧ r = false by rw [← hmt, ← hr, meetN, meetC_nodes, hb]; simp)
      have Ha := Lib.hid ha
      clear hmt hr ha
      go_enter Try.func15, Try.ntmps15
      go_wp2_with (go_at_call 23; first | (refine (c_l6Node _ _ _ ps b hb _ hn (h.keep (Bw.trans (Bw.alloc (Bw.refl _) _) hb1))).mono ?_; rintro e w2 ⟨rfl, hb2⟩) | (refine (c_l6Node _ _ _ ps a Ha.out _ hn (h.keep (Bw.alloc (Bw.refl _) _))).mono ?_; rintro e w1 ⟨rfl, hb1⟩; have b0 := hb1.cellv (p := ⟨w.heap.size, 0, none⟩) (v := .slice A n c) (by go_simp)))
      go_ret2
      rw [HR.out.1, HR.out.2]
      exact ⟨rfl, Bw.trans (Bw.alloc (Bw.refl _) _) (hb1.trans hb2)⟩
    · have HC := Lib.hid (show meetC ps a b = true by rw [meetC_nodes, ha, hb]; rfl)
      have HR := Lib.hid (show m = meetTo (pathP ps b) (pathP ps a) (pathP ps a).length ∧ r = true by rw [← hmt, ← hr, meetN, HC.out]; simp)
      have hC := HC.out
      simp only [meetC, Bool.and_eq_true, hl.out] at hC
      obtain ⟨hg, hra, hrb⟩ := hC
      have ⟨a0, a1⟩ := inR_iff.1 hra
      have ⟨b0, b1⟩ := inR_iff.1 hrb
      have Hg := Lib.hid hg
      have Ha := Lib.hid ha
      have Hb := Lib.hid hb
      have hlA := pathP_len ps a
      have hlB := pathP_len ps b
      generalize hpa : pathP ps a = pa at HR hlA
      generalize hpb : pathP ps b = pb at HR hlB
      have HA := Lib.hid hpa
      have HB := Lib.hid hpb
      clear hmt hr ha hb hg hra hrb hpa hpb
      go_enter Try.func15, Try.ntmps15
      go_wp2_with (go_at_call 23; first | (have hb1x := hb1; clear hb1x; refine (c_l6Node _ _ _ ps b Hb.out _ hn (h.keep (Bw.trans (Bw.alloc (Bw.refl _) _) hb1))).mono ?_; rintro e w2 ⟨rfl, hb2⟩; have d2 := hb2.cellv d0) | (refine (c_l6Node _ _ _ ps a Ha.out _ hn (h.keep (Bw.alloc (Bw.refl _) _))).mono ?_; rintro e w1 ⟨rfl, hb1⟩; have d0 := hb1.cellv (p := ⟨w.heap.size, 0, none⟩) (v := .slice A n c) (by go_simp)))
      have hb12 : Bw (w.alloc (.cells #[.slice A n c] 26)) w2 := hb1.trans hb2
      have hbw2 : Bw w w2 := Bw.trans (Bw.alloc (Bw.refl _) _) hb12
      clear d0
      refine (c_l6Path _ _ _ ps a Hg.out a0 (by omega) _ (h.keep hbw2)).mono ?_
      rw [HA.out]
      rintro e w3 ⟨⟨A3, c3, rfl, row3⟩, hb3⟩
      have rd3 := row3.rd (fun _ => rfl)
      have d3 := hb3.cellv d2
      clear d2
      go_wp2_with fail
      go_loopw [8, 10] (fun mv i wr => ∃ k : Nat, k ≤ pa.length ∧ i = .int .i64 k ∧ mv = .int .i64 (meetTo pb pa k) ∧ Bw w3 wr) (fun _ i _ => pa.length - (intOf i).toNat)
      case atStart => exact ⟨0, Nat.zero_le _, rfl, by rw [meetTo_zero], Bw.refl _⟩
      case round =>
        obtain ⟨k, hk, rfl, rfl, hbl⟩ := hrel
        by_cases hlt : k < pa.length
        · obtain ⟨g, off, rfl, hgb, hc⟩ := (rd3.keep hbl).ints (by omega)
          have q0 := hc k hlt
          have d4 := hbl.cellv d3
          clear hc
          have hkr : Bw w wr := (hbw2.trans hb3).trans hbl
          generalize hx : intAt pa k = x at q0
          have HX := Lib.hid hx
          clear hx
          cases hh : hasI pb x
          · go_wp2_with fail
            go_region_held3 (fun W => W.cell? ⟨w.heap.size, 0, none⟩ = some (.slice A n c) ∧ W.cell? ⟨g, off + k, none⟩ = some (.int .i64 x) ∧ Bw wr W) (first | exact ⟨d4, q0, Bw.drew (Bw.refl _)⟩ | exact ⟨hb5.cellv s1, hb5.cellv s2, hb5b⟩ | (simp_all; done)) (first | ((have hS := ‹World.cell? _ _ = _ ∧ World.cell? _ _ = _ ∧ Bw wr _›); (obtain ⟨s1, s2, s3⟩ := hS); (go_at_call 24); refine (c_l6Path _ _ _ ps b Hg.out b0 (by omega) _ (h.keep (hkr.trans s3))).mono ?_; rw [HB.out]; rintro e w5 ⟨⟨A5, c5, rfl, row5⟩, hb5⟩; have hb5b := Bw.trans s3 hb5) | (go_at_call 26; refine (c_l1Has _ _ _ pb x hh _ (by omega) (row5.rd (fun _ => rfl))).mono ?_; rintro e w6 ⟨rfl, rfl⟩))
            have q5 := hb5b.cellv q0
            go_wp2
            go_roundw
            case rel => exact ⟨k + 1, by omega, by go_num, by rw [meetTo_no hlt (by rw [HX.out]; exact hh)], hbl.trans hb5b⟩
            case measure => simp [intOf]; omega
          · go_wp2_with fail
            go_region_held3 (fun W => W.cell? ⟨w.heap.size, 0, none⟩ = some (.slice A n c) ∧ W.cell? ⟨g, off + k, none⟩ = some (.int .i64 x) ∧ Bw wr W) (first | exact ⟨d4, q0, Bw.drew (Bw.refl _)⟩ | exact ⟨hb5.cellv s1, hb5.cellv s2, hb5b⟩ | (simp_all; done)) (first | ((have hS := ‹World.cell? _ _ = _ ∧ World.cell? _ _ = _ ∧ Bw wr _›); (obtain ⟨s1, s2, s3⟩ := hS); (go_at_call 24); refine (c_l6Path _ _ _ ps b Hg.out b0 (by omega) _ (h.keep (hkr.trans s3))).mono ?_; rw [HB.out]; rintro e w5 ⟨⟨A5, c5, rfl, row5⟩, hb5⟩; have hb5b := Bw.trans s3 hb5) | (go_at_call 26; refine (c_l1Has _ _ _ pb x hh _ (by omega) (row5.rd (fun _ => rfl))).mono ?_; rintro e w6 ⟨rfl, rfl⟩))
            have q5 := hb5b.cellv q0
            go_wp2
            go_roundw
            case rel => exact ⟨k + 1, by omega, by go_num, by rw [meetTo_yes hlt (by rw [HX.out]; exact hh), HX.out], hbl.trans hb5b⟩
            case measure => simp [intOf]; omega
        · obtain rfl : k = pa.length := by omega
          go_wp2
          go_ret2
          rw [HR.out.1, HR.out.2]
          exact ⟨rfl, (hbw2.trans hb3).trans hbl⟩
end Go.Proofs.Ythciecmofgoebaa
