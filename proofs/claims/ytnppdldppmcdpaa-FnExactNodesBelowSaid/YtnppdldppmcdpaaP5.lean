
/- MeetingNode, the program's side. -/
import Derived.Test.YtnppdldppmcdpaaP4
namespace Go.Proofs.Ytnppdldppmcdpaa
open Go.RowKit
theorem Rd.litI (w : World) (xs : List Int) (cs : Array Value) (t : TypeId) (n : Nat) (hn : xs.length = n) (h : cs.toList = xs.map (.int .i64)) : Rd (w.alloc (.cells cs t)) (some ⟨w.heap.size, 0, none⟩) n 1 (xs.map icell) := by
  refine ⟨by simpa using hn, fun _ => ⟨_, _, rfl, by simp, fun k j l u hk hj => ?_⟩⟩
  rw [List.getElem?_map] at hk
  cases hx : xs[k]? with
  | none => rw [hx] at hk; cases hk
  | some x =>
    rw [hx] at hk
    simp only [Option.map_some, Option.some.injEq] at hk
    subst hk
    have h1 := cell_of_row (w.alloc (.cells cs t)) w.heap.size k cs t (0, 0) (heap_alloc_new w _)
    match j with
    | 0 =>
      simp [icell] at hj
      subst hj
      simp only [Nat.mul_one, Nat.zero_add, Nat.add_zero] at *
      rw [h1, ← Array.getElem?_toList, h, List.getElem?_map, hx]; rfl
    | j + 1 => simp [icell] at hj
theorem setCell_grown (W : World) (b : Nat) (v : Value) : W.grownBy (W.setCell ⟨b, 0, none⟩ v) (some b) :=
  ⟨rfl, rfl, rfl, (by simp), fun k _ hk => Below.heap_setCell _ _ _ k (fun e => hk (by rw [e]))⟩
set_option maxRecDepth 100000 in
theorem c_iMeetingNode (A : Option Addr) (n c : Nat) (ps : List Int) (a b : Int) {m : Int} {r : Bool} (hmt : meetN ps a b = m) (hr : meetC ps a b = r) (w : World) (hn : n ≤ 9223372036854775807) (h : Rd w A n 1 (ps.map icell)) :
    Calls Try.prog 9 #[.agg #[.slice A n c], .int .i64 a, .int .i64 b] w fun e w' => e = .returned (.tuple #[.int .i64 m, .bool r]) ∧ Bw w w' := by
  have hl := Lib.hid h.ilen
  have hab := allIn_two n a b
  cases hC : meetC ps a b
  · have HR := Lib.hid (show m = 0 ∧ r = false by rw [← hmt, ← hr, meetN, hC]; simp)
    have HN := Lib.hid (show (goodP ps && allIn n [a, b]) = false by rw [hab, ← hC, meetC, hl.out])
    clear hmt hr hab hC
    go_enter Try.func9, Try.ntmps9
    go_wp2_with (go_at_call 34; refine (c_hasNodes _ _ _ ps _ _ _ [a, b] HN.out _ hn (by omega) (h.keep (Bw.alloc (Bw.alloc (Bw.refl _) _) _)) (by have := Rd.litI (w.alloc (.cells #[.slice A n c] 28)) [a, b] #[.int .i64 a, .int .i64 b] 3 2 rfl rfl; simpa using this)).mono ?_; rintro e w1 ⟨rfl, hb1⟩)
    go_ret2
    rw [HR.out.1, HR.out.2]
    exact ⟨rfl, Bw.trans (Bw.alloc (Bw.alloc (Bw.refl _) _) _) hb1⟩
  · have HR := Lib.hid (show m = meetTo (pathP ps b) (pathP ps a) (pathP ps a).length ∧ r = true by rw [← hmt, ← hr, meetN, hC]; simp)
    have HN := Lib.hid (show (goodP ps && allIn n [a, b]) = true by rw [hab, ← hC, meetC, hl.out])
    simp only [meetC, Bool.and_eq_true, hl.out] at hC
    obtain ⟨hg, hra, hrb⟩ := hC
    have ⟨a0, a1⟩ := inR_iff.1 hra
    have ⟨b0, b1⟩ := inR_iff.1 hrb
    have Hg := Lib.hid hg
    have hlA := pathP_len ps a
    have hlB := pathP_len ps b
    generalize hpa : pathP ps a = pa at HR hlA
    generalize hpb : pathP ps b = pb at HR hlB
    have HA := Lib.hid hpa
    have HB := Lib.hid hpb
    clear hmt hr hab hg hra hrb hpa hpb
    go_enter Try.func9, Try.ntmps9
    go_wp2_with (go_at_call 34; refine (c_hasNodes _ _ _ ps _ _ _ [a, b] HN.out _ hn (by omega) (h.keep (Bw.alloc (Bw.alloc (Bw.refl _) _) _)) (by have := Rd.litI (w.alloc (.cells #[.slice A n c] 28)) [a, b] #[.int .i64 a, .int .i64 b] 3 2 rfl rfl; simpa using this)).mono ?_; rintro e w1 ⟨rfl, hb1⟩; have d1 := hb1.cellv (p := ⟨w.heap.size, 0, none⟩) (v := .slice A n c) (by go_simp))
    have hbw1 : Bw w w1 := Bw.trans (Bw.alloc (Bw.alloc (Bw.refl _) _) _) hb1
    refine (c_path _ _ _ ps b Hg.out b0 (by omega) _ (h.keep hbw1)).mono ?_
    rw [HB.out]
    rintro e w2 ⟨⟨A2, c2, rfl, row2⟩, hb2⟩
    have d2 := hb2.cellv d1
    go_wp2_with fail
    refine (c_path _ _ _ ps a Hg.out a0 (by omega) _ (h.keep (hbw1.trans hb2))).mono ?_
    rw [HA.out]
    rintro e w3 ⟨⟨A3, c3, rfl, row3⟩, hb3⟩
    have rd3 := row3.rd (fun _ => rfl)
    have rdb := (row2.rd (fun _ => rfl)).keep hb3
    go_wp2_with fail
    go_loopw [9, 25] (fun mv i wr => ∃ k : Nat, k ≤ pa.length ∧ i = .int .i64 k ∧ mv = .int .i64 (meetTo pb pa k) ∧ Bw w3 wr) (fun _ i _ => pa.length - (intOf i).toNat)
    case atStart => exact ⟨0, Nat.zero_le _, rfl, by rw [meetTo_zero], Bw.refl _⟩
    case round =>
      obtain ⟨k, hk, rfl, rfl, hbl⟩ := hrel
      by_cases hlt : k < pa.length
      · obtain ⟨g, off, rfl, hgb, hc⟩ := (rd3.keep hbl).ints (by omega)
        have q0 := hc k hlt
        clear hc
        generalize hx : intAt pa k = x at q0
        have HX := Lib.hid hx
        clear hx
        cases hh : hasI pb x
        · go_wp2_with (go_at_call 36; refine (c_Contains _ _ _ pb x hh _ (by omega) (rdb.keep hbl)).mono ?_; rintro e w6 ⟨rfl, rfl⟩)
          go_roundw
          case rel => exact ⟨k + 1, by omega, by go_num, by rw [meetTo_no hlt (by rw [HX.out]; exact hh)], hbl⟩
          case measure => simp [intOf]; omega
        · go_wp2_with (go_at_call 36; refine (c_Contains _ _ _ pb x hh _ (by omega) (rdb.keep hbl)).mono ?_; rintro e w6 ⟨rfl, rfl⟩)
          go_roundw
          case rel => exact ⟨k + 1, by omega, by go_num, by rw [meetTo_yes hlt (by rw [HX.out]; exact hh), HX.out], hbl⟩
          case measure => simp [intOf]; omega
      · obtain rfl : k = pa.length := by omega
        go_wp2
        go_ret2
        rw [HR.out.1, HR.out.2]
        exact ⟨rfl, ((hbw1.trans hb2).trans hb3).trans hbl⟩
theorem c_szTree (A : Option Addr) (n c : Nat) (hm : n ≤ 9223372036854775807) (w : World) : Calls Try.prog 6 #[.agg #[.slice A n c], .int .i64 1048576] w fun e w' => (∃ m : Int, e = .returned (.int .i64 m) ∧ (m < 0 ∨ n ≤ 1048576)) ∧ Bw w w' := by
  go_enter Try.func6, Try.ntmps6
  go_wp2_with (go_at_call 29; refine (c_szIntS _ _ _ hm _).mono ?_; rintro e w1 ⟨⟨m, rfl, hmm⟩, rfl⟩)
  all_goals
    go_ret
    exact ⟨⟨_, rfl, by omega⟩, by (repeat (first | with_reducible assumption | exact Bw.refl _ | (with_reducible refine Bw.setCell ?_ (by simp) _) | (with_reducible refine Bw.alloc ?_ _) | (with_reducible refine Bw.drew ?_) | (with_reducible refine Bw.drewN ?_ _)))⟩
theorem c_toTree (A : Option Addr) (n c : Nat) (ts : List Int) (w : World) (hm : n ≤ 1048576) (h : Rd w A n 1 (ts.map icell)) :
    Calls Try.prog 8 #[.agg #[.slice A n c]] w fun e w' => (∃ A' c', e = .returned (.agg #[.slice A' n c']) ∧ Row w' w.heap.size 3 1 icell A' n c' ts) ∧ Bw w w' := by
  go_enter Try.func8, Try.ntmps8
  go_wp2_with (go_at_call 33; refine (c_toIntS _ _ _ ts _ hm (h.keep (Bw.alloc (Bw.alloc (Bw.alloc (Bw.refl _) _) _) _))).mono ?_; rintro e w1 ⟨⟨A1, c1, rfl, row1⟩, hb1⟩; have hr1 := hb1.rule; have hf1 := hb1.frz; have hs1 : w.heap.size + 3 ≤ w1.heap.size := (by have := hb1.size; simpa using this); have b1 := hb1.cellv (p := ⟨w.heap.size + 1, 0, none⟩) (v := .slice none 0 0) (by go_simp); have b2 := hb1.cellv (p := ⟨w.heap.size + 2, 0, none⟩) (v := .slice none 0 0) (by go_simp))
  have g1 := setCell_grown w1 (w.heap.size + 1 + 1) (.slice A1 n c1)
  have g2 := setCell_grown (w1.setCell ⟨w.heap.size + 1 + 1, 0, none⟩ (.slice A1 n c1)) (w.heap.size + 1) (.slice A1 n c1)
  have lt1 := row1.lt
  have r1 := row1.grown g1 (fun x hx he => by have := (lt1 x hx).1; simp at he this; omega)
  have r2 := r1.grown g2 (fun x hx he => by have := (lt1 x hx).1; simp at he this; omega)
  exact bodyPost_ret (v := .agg #[.slice A1 n c1]) (by simp [results, Try.results8, go_sem, b1, b2]) rfl ⟨⟨_, _, rfl, r2.mono (by simp; omega)⟩, by
    have hb : Bw w w1 := Bw.trans (by (repeat (first | with_reducible assumption | exact Bw.refl _ | (with_reducible refine Bw.setCell ?_ (by simp) _) | (with_reducible refine Bw.alloc ?_ _) | (with_reducible refine Bw.drew ?_) | (with_reducible refine Bw.drewN ?_ _)))) hb1
    exact Bw.setCell (Bw.setCell hb (by simp; omega) _) (by simp) _⟩
theorem c_eqTree (A A' : Option Addr) (n c c' : Nat) (ts : List Int) (w : World) (hm : n ≤ 9223372036854775807) (h : Rd w A n 1 (ts.map icell)) (h' : Rd w A' n 1 (ts.map icell)) :
    Calls Try.prog 10 #[.agg #[.slice A n c], .agg #[.slice A' n c']] w fun e w' => e = .returned (.bool true) ∧ Bw w w' := by
  go_enter Try.func10, Try.ntmps10
  go_wp2_with (go_at_call 13; refine (c_eqIntS _ _ _ _ _ ts _ hm (h.keep (Bw.alloc (Bw.alloc (Bw.refl _) _) _)) (h'.keep (Bw.alloc (Bw.alloc (Bw.refl _) _) _))).mono ?_; rintro e w1 ⟨rfl, hb1⟩)
  go_ret
  exact ⟨rfl, Bw.trans (Bw.alloc (Bw.alloc (Bw.refl _) _) _) hb1⟩
end Go.Proofs.Ytnppdldppmcdpaa
