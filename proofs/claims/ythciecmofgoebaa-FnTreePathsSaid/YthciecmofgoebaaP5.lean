
/- MeetingNode, the program's side. -/
import Derived.Test.YthciecmofgoebaaP4
namespace Go.Proofs.Ythciecmofgoebaa
open Go.RowKit
theorem Rd.litI (w : World) (xs : List Int) (cs : Array Value) (t : TypeId) (n : Nat) (hn : xs.length = n) (h : cs.toList = xs.map (.int .i64)) : Rd (w.alloc (.cells cs t)) (some ⟨w.heap.size, 0, none⟩) n 1 (xs.map icell) := by
  refine ⟨by simpa using hn, fun _ => ⟨_, _, rfl, by simp, fun k j l u hk hj => ?_⟩⟩
  rw [List.getElem?_map] at hk
  cases hx : xs[k]? with
  | none => rw [hx] at hk; cases hk
  | some x =>
    rw [hx] at hk
    simp only [Option.map_some, Option.some.injEq] at hk
    subst hk
    have h1 := cell_of_row (w.alloc (.cells cs t)) w.heap.size k cs t (0, 0) (heap_alloc_new w _)
    match j with
    | 0 =>
      simp [icell] at hj
      subst hj
      simp only [Nat.mul_one, Nat.zero_add, Nat.add_zero] at *
      rw [h1, ← Array.getElem?_toList, h, List.getElem?_map, hx]; rfl
    | j + 1 => simp [icell] at hj
theorem setCell_grown (W : World) (b : Nat) (v : Value) : W.grownBy (W.setCell ⟨b, 0, none⟩ v) (some b) :=
  ⟨rfl, rfl, rfl, (by simp), fun k _ hk => Below.heap_setCell _ _ _ k (fun e => hk (by rw [e]))⟩
set_option maxRecDepth 100000 in
theorem c_iMeetingNode (A : Option Addr) (n c : Nat) (ps : List Int) (a b : Int) {m : Int} {r : Bool} (hmt : meetN ps a b = m) (hr : meetC ps a b = r) (w : World) (hn : n ≤ 9223372036854775807) (h : Rd w A n 1 (ps.map icell)) :
    Calls Try.prog 14 #[.agg #[.slice A n c], .int .i64 a, .int .i64 b] w fun e w' => e = .returned (.tuple #[.int .i64 m, .bool r]) ∧ Bw w w' := by
  have hl := Lib.hid h.ilen
  have hab := allIn_two n a b
  cases hC : meetC ps a b
  · have HR := Lib.hid (show m = 0 ∧ r = false by rw [← hmt, ← hr, meetN, hC]; simp)
    have HN := Lib.hid (show (goodP ps && allIn n [a, b]) = false by rw [hab, ← hC, meetC, hl.out])
    clear hmt hr hab hC
    go_enter Try.func14, Try.ntmps14
    go_wp2_with (go_at_call 21; refine (c_hasNodes _ _ _ ps _ _ _ [a, b] HN.out _ hn (by omega) (h.keep (Bw.alloc (Bw.alloc (Bw.refl _) _) _)) (by have := Rd.litI (w.alloc (.cells #[.slice A n c] 26)) [a, b] #[.int .i64 a, .int .i64 b] 3 2 rfl rfl; simpa using this)).mono ?_; rintro e w1 ⟨rfl, hb1⟩)
    go_ret2
    rw [HR.out.1, HR.out.2]
    exact ⟨rfl, Bw.trans (Bw.alloc (Bw.alloc (Bw.refl _) _) _) hb1⟩
  · have HR := Lib.hid (show m = meetTo (pathP ps b) (pathP ps a) (pathP ps a).length ∧ r = true by rw [← hmt, ← hr, meetN, hC]; simp)
    have HN := Lib.hid (show (goodP ps && allIn n [a, b]) = true by rw [hab, ← hC, meetC, hl.out])
    simp only [meetC, Bool.and_eq_true, hl.out] at hC
    obtain ⟨hg, hra, hrb⟩ := hC
    have ⟨a0, a1⟩ := inR_iff.1 hra
    have ⟨b0, b1⟩ := inR_iff.1 hrb
    have Hg := Lib.hid hg
    have hlA := pathP_len ps a
    have hlB := pathP_len ps b
    generalize hpa : pathP ps a = pa at HR hlA
    generalize hpb : pathP ps b = pb at HR hlB
    have HA := Lib.hid hpa
    have HB := Lib.hid hpb
    clear hmt hr hab hg hra hrb hpa hpb
    go_enter Try.func14, Try.ntmps14
    go_wp2_with (go_at_call 21; refine (c_hasNodes _ _ _ ps _ _ _ [a, b] HN.out _ hn (by omega) (h.keep (Bw.alloc (Bw.alloc (Bw.refl _) _) _)) (by have := Rd.litI (w.alloc (.cells #[.slice A n c] 26)) [a, b] #[.int .i64 a, .int .i64 b] 3 2 rfl rfl; simpa using this)).mono ?_; rintro e w1 ⟨rfl, hb1⟩; have d1 := hb1.cellv (p := ⟨w.heap.size, 0, none⟩) (v := .slice A n c) (by go_simp))
    have hbw1 : Bw w w1 := Bw.trans (Bw.alloc (Bw.alloc (Bw.refl _) _) _) hb1
    refine (c_path _ _ _ ps b Hg.out b0 (by omega) _ (h.keep hbw1)).mono ?_
    rw [HB.out]
    rintro e w2 ⟨⟨A2, c2, rfl, row2⟩, hb2⟩
    have d2 := hb2.cellv d1
    go_wp2_with fail
    refine (c_path _ _ _ ps a Hg.out a0 (by omega) _ (h.keep (hbw1.trans hb2))).mono ?_
    rw [HA.out]
    rintro e w3 ⟨⟨A3, c3, rfl, row3⟩, hb3⟩
    have rd3 := row3.rd (fun _ => rfl)
    have rdb := (row2.rd (fun _ => rfl)).keep hb3
    go_wp2_with fail
    go_loopw [9, 25] (fun mv i wr => ∃ k : Nat, k ≤ pa.length ∧ i = .int .i64 k ∧ mv = .int .i64 (meetTo pb pa k) ∧ Bw w3 wr) (fun _ i _ => pa.length - (intOf i).toNat)
    case atStart => exact ⟨0, Nat.zero_le _, rfl, by rw [meetTo_zero], Bw.refl _⟩
    case round =>
      obtain ⟨k, hk, rfl, rfl, hbl⟩ := hrel
      by_cases hlt : k < pa.length
      · obtain ⟨g, off, rfl, hgb, hc⟩ := (rd3.keep hbl).ints (by omega)
        have q0 := hc k hlt
        clear hc
        generalize hx : intAt pa k = x at q0
        have HX := Lib.hid hx
        clear hx
        cases hh : hasI pb x
        · go_wp2_with (go_at_call 30; refine (c_Contains _ _ _ pb x hh _ (by omega) (rdb.keep hbl)).mono ?_; rintro e w6 ⟨rfl, rfl⟩)
          go_roundw
          case rel => exact ⟨k + 1, by omega, by go_num, by rw [meetTo_no hlt (by rw [HX.out]; exact hh)], hbl⟩
          case measure => simp [intOf]; omega
        · go_wp2_with (go_at_call 30; refine (c_Contains _ _ _ pb x hh _ (by omega) (rdb.keep hbl)).mono ?_; rintro e w6 ⟨rfl, rfl⟩)
          go_roundw
          case rel => exact ⟨k + 1, by omega, by go_num, by rw [meetTo_yes hlt (by rw [HX.out]; exact hh), HX.out], hbl⟩
          case measure => simp [intOf]; omega
      · obtain rfl : k = pa.length := by omega
        go_wp2
        go_ret2
        rw [HR.out.1, HR.out.2]
        exact ⟨rfl, ((hbw1.trans hb2).trans hb3).trans hbl⟩
end Go.Proofs.Ythciecmofgoebaa
