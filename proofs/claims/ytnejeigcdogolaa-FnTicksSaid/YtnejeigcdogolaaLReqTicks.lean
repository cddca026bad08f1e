
/- The law FnTicks: the walk. -/
import Derived.Test.YtnejeigcdogolaaLReqs
import Derived.ChangeKeysEq
namespace Go.Proofs.Ytnejeigcdogolaa
open Go.RowKit
theorem run_eqA3 (a b c : Int) (W : World) : (Op.equalIn 10000 44 (.agg #[.int .i64 a, .int .i64 b, .int .i64 c]) (.agg #[.int .i64 a, .int .i64 b, .int .i64 c])).run Try.prog W = .ok true W := by
  obtain ⟨i, hi, _⟩ := info_parts infoInt
  have hc : Try.prog.cellsOf 3 = 1 := by kernel_rfl
  have hp : Try.prog.plainKey 3 = true := by kernel_rfl
  have hu := Try.underlying3
  have q0 := fun W => run_part_plain (P := Try.prog) W hp (xs := #[.int .i64 a, .int .i64 b, .int .i64 c]) (off := 0) (v := .int .i64 a) rfl
  have q1 := fun W => run_part_plain (P := Try.prog) W hp (xs := #[.int .i64 a, .int .i64 b, .int .i64 c]) (off := 1) (v := .int .i64 b) rfl
  have q2 := fun W => run_part_plain (P := Try.prog) W hp (xs := #[.int .i64 a, .int .i64 b, .int .i64 c]) (off := 2) (v := .int .i64 c) rfl
  have e : ∀ (x : Int) (W : World), (Op.equalIn 9999 3 (.int .i64 x) (.int .i64 x)).run Try.prog W = .ok true W := fun x W => by
    have := run_equalIn_int (P := Try.prog) (w := W) 9998 3 .i64 .i64 x x hu
    simpa using this
  rw [show (10000 : Nat) = 9999 + 1 from rfl, run_equalIn_array W 9999 _ _ Try.underlying44 hi, hc, show List.range 3 = [0, 1, 2] from rfl]
  simp [Op.eqItems, q0, q1, q2, e]
theorem sc_bd (ts : List Request) (base : Int) (n : Nat) (s : Int) : 0 ≤ stateCounts ts base n s ∧ stateCounts ts base n s ≤ n := by
  unfold stateCounts; split
  · exact cntS_bd ts s n
  · omega
set_option maxRecDepth 100000 in
set_option maxHeartbeats 1000000 in
theorem w_Ticks (A : Option Addr) (n c : Nat) (w : World) (hm : n ≤ 9223372036854775807) (h : Code8 w A n) :
    Calls Try.prog 3 #[.slice A n c] w fun e w' => e = .returned (.bool true) ∧ Bw w w' := by
  by_cases hbn : 65536 < n
  · have hbig : decide (65536 < n) = true := by simpa using hbn
    go_enter Try.func3, Try.ntmps3
    go_wp2_with (go_at_call 5; refine (c_vBig _ _ _ hbig hm _).mono ?_; rintro e w1 ⟨rfl, rfl⟩)
    go_ret
    exact ⟨rfl, Bw.refl _⟩
  have hbig : decide (65536 < n) = false := by simpa using hbn
  have hn : n ≤ 1000000 := by omega
  clear hbn
  go_enter Try.func3, Try.ntmps3
  go_wp2_with (go_at_call 5; refine (c_vBig _ _ _ hbig hm _).mono ?_; rintro e w1 ⟨rfl, rfl⟩)
  refine (c_DrawTickRequests A n c hn _ h).mono ?_
  rintro e w1 ⟨A1, k1, d1, ts, base, clk, dly, rfl, hd1⟩
  have rd1 := hd1.rd
  have hk1 := hd1.le
  have htl := rd1.requestlen
  have htf := Lib.hid (fun hh => tick_facts (ts := ts) (base := base) (clock := clk) (delay := dly) hh)
  have hte := Lib.hid (fun hh => fun i hi => tick_each (ts := ts) (base := base) (clock := clk) (delay := dly) hh (i := i) hi)
  have HTI := Lib.hid (fun A n c W hn h => c_iTickRequests A n c ts base clk dly W hn h)
  have HTS := Lib.hid (fun A n c W hn h => c_sTickRequests A n c ts base clk dly W hn h)
  have hol := tikO_len ts base clk dly
  have hsl := tikS_len ts base clk dly
  have hll := tikL_len ts base clk dly
  generalize tikO ts base clk dly = O at *
  generalize tikS ts base clk dly = S at *
  generalize tikL ts base clk dly = L at *
  generalize tikB ts base clk dly = rb at *
  go_wp2_with fail
  refine (HTI.out _ _ _ _ (by omega) rd1).mono ?_
  rintro e w2 ⟨hx2, hb2⟩
  obtain ⟨A2, c2, B2, d2, C2, f2, rfl, tri2⟩ := hx2
  go_wp2_with fail
  refine (HTS.out _ _ _ _ (by omega) (rd1.keep hb2)).mono ?_
  rintro e w3 ⟨hx3, hb3⟩
  obtain ⟨A3, c3, B3, d3, C3, f3, rfl, tri3⟩ := hx3
  have ra2 := (tri2.a.rd (fun _ => rfl)).keep hb3
  have rb2 := (tri2.b.rd (fun _ => rfl)).keep hb3
  have rc2 := (tri2.c.rd (fun _ => rfl)).keep hb3
  have ra3 := tri3.a.rd (fun _ => rfl)
  have rb3 := tri3.b.rd (fun _ => rfl)
  have rc3 := tri3.c.rd (fun _ => rfl)
  have rd3 := (rd1.keep hb2).keep hb3
  have k3 := (hd1.bw.trans hb2).trans hb3
  clear HTI HTS
  have hrbb : (rb != rb) = false := by simp
  go_wp2_with fail
  refine (c_vRequests _ _ _ _ _ O _ (by omega) ra2 ra3).mono ?_
  rintro e w4 ⟨rfl, hb4⟩
  go_wp2_with fail
  refine (c_vInts _ _ _ _ _ S _ (by omega) (rb2.keep hb4) (rb3.keep hb4)).mono ?_
  rintro e w5 ⟨rfl, hb5⟩
  go_wp2_with fail
  refine (c_vInts _ _ _ _ _ L _ (by omega) ((rc2.keep hb4).keep hb5) ((rc3.keep hb4).keep hb5)).mono ?_
  rintro e w6 ⟨rfl, hb6⟩
  have k6 := ((k3.trans hb4).trans hb5).trans hb6
  have ra6 := ((ra2.keep hb4).keep hb5).keep hb6
  have rb6 := ((rb2.keep hb4).keep hb5).keep hb6
  have rc6 := ((rc2.keep hb4).keep hb5).keep hb6
  have rd6 := ((rd3.keep hb4).keep hb5).keep hb6
  clear tri2 tri3 ra2 rb2 rc2 ra3 rb3 rc3 rd3 rd1 k3 hrbb
  cases rb
  · go_wp2_with fail
    have kG := k6
    clear htf hte ra6 rb6 rc6 rd6 hol htl
    refine (c_DrawDueNumbers A n c hn _ (h.keep kG)).mono ?_
    rintro e w10 ⟨A10, k10, d10, ys, x10, y10, rfl, hd10⟩
    have rd10 := hd10.rd
    have hk10 := hd10.le
    have hyl := rd10.requestlen
    have hdl : (dueN ys x10 y10).length ≤ ys.length := by
      unfold dueN; split
      · exact dueK_len _ _ _
      · simp
    have HUI := Lib.hid (fun A n c W hn h => c_iDueNumbers A n c ys x10 y10 W hn h)
    have HUS := Lib.hid (fun A n c W hn h => c_sDueNumbers A n c ys x10 y10 W hn h)
    generalize dueN ys x10 y10 = U at *
    generalize (goodR ys x10 && inR y10 0 9999) = ub at *
    have hubb : (ub != ub) = false := by simp
    go_wp2_with fail
    refine (HUI.out _ _ _ _ (by omega) rd10).mono ?_
    rintro e w11 ⟨⟨A11, c11, rfl, row11⟩, hb11⟩
    go_wp2_with fail
    refine (HUS.out _ _ _ _ (by omega) (rd10.keep hb11)).mono ?_
    rintro e w12 ⟨⟨A12, c12, rfl, row12⟩, hb12⟩
    go_wp2_with (go_at_call 10; refine (c_vInts _ _ _ _ _ U _ (by omega) ((row11.rd (fun _ => rfl)).keep hb12) (row12.rd (fun _ => rfl))).mono ?_; rintro e w13 ⟨rfl, hb13⟩)
    have kH := (((kG.trans hd10.bw).trans hb11).trans hb12).trans hb13
    clear HUI HUS rd10 row11 row12 hdl hyl hubb
    refine (c_DrawMoveBase A n c hn _ (h.keep kH)).mono ?_
    rintro e w20 ⟨A20, k20, d20, us, x20, y20, rfl, hd20⟩
    have rd20 := hd20.rd
    have hk20 := hd20.le
    have hdl := moveR_len us x20 y20
    have hul := rd20.requestlen
    have hmf := Lib.hid (fun hh => move_facts (ts := us) (base := x20) (next := y20) hh)
    have HMI := Lib.hid (fun A n c W hn h => c_iMoveBase A n c us x20 y20 W hn h)
    have HMS := Lib.hid (fun A n c W hn h => c_sMoveBase A n c us x20 y20 W hn h)
    generalize moveR us x20 y20 = V at *
    generalize moveB us x20 y20 = vb at *
    go_wp2_with fail
    refine (HMI.out _ _ _ _ (by omega) rd20).mono ?_
    rintro e w21 ⟨⟨A21, c21, rfl, row21⟩, hb21⟩
    go_wp2_with fail
    refine (HMS.out _ _ _ _ (by omega) (rd20.keep hb21)).mono ?_
    rintro e w22 ⟨⟨A22, c22, rfl, row22⟩, hb22⟩
    have k22 := ((kH.trans hd20.bw).trans hb21).trans hb22
    have rdv := (row21.rd (fun _ => rfl)).keep hb22
    have rdv2 := row22.rd (fun _ => rfl)
    clear HMI HMS
    cases vb
    · go_wp2_with (go_at_call 9; refine (c_vRequests _ _ _ _ _ V _ (by omega) rdv rdv2).mono ?_; rintro e w23 ⟨rfl, hb23⟩)
      have kI := k22.trans hb23
      clear hmf rdv rdv2 row21 row22 rd20 hdl hul
      refine (c_DrawStateCounts A n c hn _ (h.keep kI)).mono ?_
      rintro e w30 ⟨A30, k30, d30, zs, x30, rfl, hd30⟩
      have rd30 := hd30.rd
      have hk30 := hd30.le
      have hzl := rd30.requestlen
      have hcf := Lib.hid (show goodR zs x30 = true → stateCounts zs x30 k30 1 + stateCounts zs x30 k30 2 + stateCounts zs x30 k30 3 = k30 from fun hh => by have := count_facts (ts := zs) (base := x30) hh; rw [hzl] at this; exact this)
      have HII := Lib.hid (fun W hn h => c_iStateCounts A30 k30 d30 zs x30 W hn h)
      have HIS := Lib.hid (fun W hn h => c_sStateCounts A30 k30 d30 zs x30 W hn h)
      have b1 := sc_bd zs x30 k30 1
      have b2 := sc_bd zs x30 k30 2
      have b3 := sc_bd zs x30 k30 3
      generalize stateCounts zs x30 k30 1 = v1 at *
      generalize stateCounts zs x30 k30 2 = v2 at *
      generalize stateCounts zs x30 k30 3 = v3 at *
      generalize goodR zs x30 = vg at *
      clear hzl
      go_wp2_with fail
      refine (HII.out _ (by omega) rd30).mono ?_
      rintro e w31 ⟨rfl, hb31⟩
      go_wp2_with fail
      have T31 := Box.mk' w31 #[.int .i64 v1, .int .i64 v2, .int .i64 v3] 44
      have ha31 := (Bw.refl w31).alloc (.cells #[.int .i64 v1, .int .i64 v2, .int .i64 v3] 44)
      refine (HIS.out _ (by omega) ((rd30.keep hb31).keep ha31)).mono ?_
      rintro e w32 ⟨rfl, hb32⟩
      have T32 := T31.keep hb32
      have ⟨t0, t1, t2⟩ := T32.c3
      have l32 := T32.lt
      have k32 := (((kI.trans hd30.bw).trans hb31).trans ha31).trans hb32
      have heq := run_eqA3 v1 v2 v3
      clear HII HIS T31 T32 rd30
      cases vg
      · go_wp2_with fail
        go_ret
        exact ⟨ret_bool (by simp), k32.alloc _⟩
      · have hsum := Lib.hid (hcf.out rfl)
        clear hcf
        go_wp2_with fail
        go_ret
        exact ⟨ret_bool (by simp [hsum.out]), k32.alloc _⟩
    · have hgv := hmf.out rfl
      clear hmf
      go_wp2_with (first | (go_at_call 9; refine (c_vRequests _ _ _ _ _ V _ (by omega) rdv rdv2).mono ?_; rintro e w23 ⟨rfl, hb23⟩) | (go_at_call 12; refine (c_AreRequests _ _ _ V y20 hgv _ (by omega) (rdv.keep hb23)).mono ?_; rintro e w24 ⟨rfl, hb24⟩))
      have kI := (k22.trans hb23).trans hb24
      clear rdv rdv2 row21 row22 rd20 hdl hul hgv
      refine (c_DrawStateCounts A n c hn _ (h.keep kI)).mono ?_
      rintro e w30 ⟨A30, k30, d30, zs, x30, rfl, hd30⟩
      have rd30 := hd30.rd
      have hk30 := hd30.le
      have hzl := rd30.requestlen
      have hcf := Lib.hid (show goodR zs x30 = true → stateCounts zs x30 k30 1 + stateCounts zs x30 k30 2 + stateCounts zs x30 k30 3 = k30 from fun hh => by have := count_facts (ts := zs) (base := x30) hh; rw [hzl] at this; exact this)
      have HII := Lib.hid (fun W hn h => c_iStateCounts A30 k30 d30 zs x30 W hn h)
      have HIS := Lib.hid (fun W hn h => c_sStateCounts A30 k30 d30 zs x30 W hn h)
      have b1 := sc_bd zs x30 k30 1
      have b2 := sc_bd zs x30 k30 2
      have b3 := sc_bd zs x30 k30 3
      generalize stateCounts zs x30 k30 1 = v1 at *
      generalize stateCounts zs x30 k30 2 = v2 at *
      generalize stateCounts zs x30 k30 3 = v3 at *
      generalize goodR zs x30 = vg at *
      clear hzl
      go_wp2_with fail
      refine (HII.out _ (by omega) rd30).mono ?_
      rintro e w31 ⟨rfl, hb31⟩
      go_wp2_with fail
      have T31 := Box.mk' w31 #[.int .i64 v1, .int .i64 v2, .int .i64 v3] 44
      have ha31 := (Bw.refl w31).alloc (.cells #[.int .i64 v1, .int .i64 v2, .int .i64 v3] 44)
      refine (HIS.out _ (by omega) ((rd30.keep hb31).keep ha31)).mono ?_
      rintro e w32 ⟨rfl, hb32⟩
      have T32 := T31.keep hb32
      have ⟨t0, t1, t2⟩ := T32.c3
      have l32 := T32.lt
      have k32 := (((kI.trans hd30.bw).trans hb31).trans ha31).trans hb32
      have heq := run_eqA3 v1 v2 v3
      clear HII HIS T31 T32 rd30
      cases vg
      · go_wp2_with fail
        go_ret
        exact ⟨ret_bool (by simp), k32.alloc _⟩
      · have hsum := Lib.hid (hcf.out rfl)
        clear hcf
        go_wp2_with fail
        go_ret
        exact ⟨ret_bool (by simp [hsum.out]), k32.alloc _⟩
  · obtain ⟨hg, hc, hgO, hdO, hsum⟩ := htf.out rfl
    have HTE := Lib.hid (hte.out rfl)
    clear htf hte
    have HSUM := Lib.hid hsum
    clear hsum
    go_wp2_with fail
    refine (c_iDueNumbers _ _ _ ts base clk _ (by omega) rd6).mono ?_
    have hDl : (dueN ts base clk).length ≤ ts.length := by
      unfold dueN; split
      · exact dueK_len _ _ _
      · simp
    rw [hg, hc]
    generalize dueN ts base clk = D at *
    rintro e w7 ⟨⟨A7, c7, rfl, row7⟩, hb7⟩
    have rd7 := row7.rd (fun _ => rfl)
    go_wp2_with fail
    refine (c_iDueNumbers _ _ _ O base clk _ (by omega) (ra6.keep hb7)).mono ?_
    rw [hgO, hc, hdO]
    rintro e w8 ⟨⟨A8, c8, rfl, row8⟩, hb8⟩
    have k8 := (k6.trans hb7).trans hb8
    have ra8 := (ra6.keep hb7).keep hb8
    have HB8 := Lib.hid ((rb6.keep hb7).keep hb8)
    have HC8 := Lib.hid ((rc6.keep hb7).keep hb8)
    have HT8 := Lib.hid ((rd6.keep hb7).keep hb8)
    have HD8 := Lib.hid (rd7.keep hb8)
    have HTL := Lib.hid htl
    have hL9 : L.length ≤ 9 := by omega
    have hS9 : S.length ≤ 9 := by omega
    have hD9 : D.length ≤ 9 := by omega
    clear hDl hll hsl
    have hq : ((O.length : Int) + (L.length : Int) != (k1 : Int)) = false := by
      have := HSUM.out
      simp; omega
    have hq2 : (((O.length + L.length : Nat) : Int) != (k1 : Int)) = false := by
      have := HSUM.out
      simp; omega
    have hqb : (0 : Int) ≤ (O.length : Int) + (L.length : Int) ∧ (O.length : Int) + (L.length : Int) ≤ 100 := by
      have := HSUM.out
      omega
    clear hg hdO ra6 rb6 rc6 rd6 row7 rd7 row8 htl
    simp only [Bool.and_self, List.length_nil]
    go_wp2_with (go_at_call 12; refine (c_AreRequests _ _ _ O base hgO _ (by omega) ra8).mono ?_; rintro e w9 ⟨rfl, hb9⟩)
    clear hq hq2 hqb
    go_loopw [19] (fun i wr => ∃ k : Nat, k ≤ k1 ∧ i = .int .i64 k ∧ Bw w9 wr) (fun i _ => k1 - (intOf i).toNat)
    case atStart => exact ⟨0, Nat.zero_le _, rfl, Bw.refl _⟩
    case round =>
      obtain ⟨k, hk, rfl, hbl⟩ := hrel
      by_cases hkl : k < k1
      · have hb89 := hb9.trans hbl
        obtain ⟨b2, off2, rfl, hb2', hc2⟩ := (HT8.out.keep hb89).request (by omega)
        have ⟨p0, p1, p2, p3⟩ := hc2 k hkl
        clear hc2
        obtain ⟨u, v, hu1, hu2, hu3⟩ := HTE.out k (by have := HTL.out; omega)
        have i7 : (k : Int) < (k1 : Int) := by omega
        have ht4 : ((requestAt ts k).tries == 3) = decide ((requestAt ts k).tries = 3) := rfl
        generalize (requestAt ts k).number = num at *
        cases ht3 : decide ((requestAt ts k).tries = 3)
        all_goals
          rw [ht3] at ht4 hu1 hu2
          clear ht3
          cases u
        all_goals cases v
        all_goals
          simp only [Bool.true_and, Bool.false_and, Bool.and_true, Bool.and_false, Bool.not_true, Bool.not_false] at hu1 hu2
          have HQ1 := Lib.hid (fun (x : Ext wr) => c_vHas C2 L.length f2 L num hu1 x.v (by omega) ((HC8.out.keep hb89).keep x.h))
          have HQ2 := Lib.hid (fun (x : Ext wr) => c_vHas B2 S.length d2 S num hu2 x.v (by omega) ((HB8.out.keep hb89).keep x.h))
          have HU3 := Lib.hid hu3
          clear hu1 hu2 hu3
          go_wp2_with fail
          (refine wp_region_ext (by kernel_rfl) (by kernel_rfl) ?_; (repeat (go_big_quiet_step (first | with_reducible exact Ext.same (HQ1.out _) | with_reducible exact Ext.same (HQ2.out _)))); (with_reducible refine wpQuiet_nil ?_); intro w2 hb2)
          have p0' := hb2.cellv p0
          have p3' := hb2.cellv p3
          go_wp2_with (go_at_call 13; refine (c_vHas _ _ _ D num HU3.out _ (by omega) ((HD8.out.keep hb89).keep hb2)).mono ?_; rintro e w9 ⟨rfl, rfl⟩)
          go_roundw
          case rel => exact ⟨k + 1, by omega, by go_num, hbl.trans hb2⟩
          case measure => simp [intOf]; omega
      · go_wp2_with fail
        have kG := (k8.trans hb9).trans hbl
        clear HB8 HC8 HT8 HD8 HTL HSUM HTE hkl hk hc hgO
        refine (c_DrawDueNumbers A n c hn _ (h.keep kG)).mono ?_
        rintro e w10 ⟨A10, k10, d10, ys, x10, y10, rfl, hd10⟩
        have rd10 := hd10.rd
        have hk10 := hd10.le
        have hyl := rd10.requestlen
        have hdl : (dueN ys x10 y10).length ≤ ys.length := by
          unfold dueN; split
          · exact dueK_len _ _ _
          · simp
        have HUI := Lib.hid (fun A n c W hn h => c_iDueNumbers A n c ys x10 y10 W hn h)
        have HUS := Lib.hid (fun A n c W hn h => c_sDueNumbers A n c ys x10 y10 W hn h)
        generalize dueN ys x10 y10 = U at *
        generalize (goodR ys x10 && inR y10 0 9999) = ub at *
        have hubb : (ub != ub) = false := by simp
        go_wp2_with fail
        refine (HUI.out _ _ _ _ (by omega) rd10).mono ?_
        rintro e w11 ⟨⟨A11, c11, rfl, row11⟩, hb11⟩
        go_wp2_with fail
        refine (HUS.out _ _ _ _ (by omega) (rd10.keep hb11)).mono ?_
        rintro e w12 ⟨⟨A12, c12, rfl, row12⟩, hb12⟩
        go_wp2_with (go_at_call 10; refine (c_vInts _ _ _ _ _ U _ (by omega) ((row11.rd (fun _ => rfl)).keep hb12) (row12.rd (fun _ => rfl))).mono ?_; rintro e w13 ⟨rfl, hb13⟩)
        have kH := (((kG.trans hd10.bw).trans hb11).trans hb12).trans hb13
        clear HUI HUS rd10 row11 row12 hdl hyl hubb
        refine (c_DrawMoveBase A n c hn _ (h.keep kH)).mono ?_
        rintro e w20 ⟨A20, k20, d20, us, x20, y20, rfl, hd20⟩
        have rd20 := hd20.rd
        have hk20 := hd20.le
        have hdl := moveR_len us x20 y20
        have hul := rd20.requestlen
        have hmf := Lib.hid (fun hh => move_facts (ts := us) (base := x20) (next := y20) hh)
        have HMI := Lib.hid (fun A n c W hn h => c_iMoveBase A n c us x20 y20 W hn h)
        have HMS := Lib.hid (fun A n c W hn h => c_sMoveBase A n c us x20 y20 W hn h)
        generalize moveR us x20 y20 = V at *
        generalize moveB us x20 y20 = vb at *
        go_wp2_with fail
        refine (HMI.out _ _ _ _ (by omega) rd20).mono ?_
        rintro e w21 ⟨⟨A21, c21, rfl, row21⟩, hb21⟩
        go_wp2_with fail
        refine (HMS.out _ _ _ _ (by omega) (rd20.keep hb21)).mono ?_
        rintro e w22 ⟨⟨A22, c22, rfl, row22⟩, hb22⟩
        have k22 := ((kH.trans hd20.bw).trans hb21).trans hb22
        have rdv := (row21.rd (fun _ => rfl)).keep hb22
        have rdv2 := row22.rd (fun _ => rfl)
        clear HMI HMS
        cases vb
        · go_wp2_with (go_at_call 9; refine (c_vRequests _ _ _ _ _ V _ (by omega) rdv rdv2).mono ?_; rintro e w23 ⟨rfl, hb23⟩)
          have kI := k22.trans hb23
          clear hmf rdv rdv2 row21 row22 rd20 hdl hul
          refine (c_DrawStateCounts A n c hn _ (h.keep kI)).mono ?_
          rintro e w30 ⟨A30, k30, d30, zs, x30, rfl, hd30⟩
          have rd30 := hd30.rd
          have hk30 := hd30.le
          have hzl := rd30.requestlen
          have hcf := Lib.hid (show goodR zs x30 = true → stateCounts zs x30 k30 1 + stateCounts zs x30 k30 2 + stateCounts zs x30 k30 3 = k30 from fun hh => by have := count_facts (ts := zs) (base := x30) hh; rw [hzl] at this; exact this)
          have HII := Lib.hid (fun W hn h => c_iStateCounts A30 k30 d30 zs x30 W hn h)
          have HIS := Lib.hid (fun W hn h => c_sStateCounts A30 k30 d30 zs x30 W hn h)
          have b1 := sc_bd zs x30 k30 1
          have b2 := sc_bd zs x30 k30 2
          have b3 := sc_bd zs x30 k30 3
          generalize stateCounts zs x30 k30 1 = v1 at *
          generalize stateCounts zs x30 k30 2 = v2 at *
          generalize stateCounts zs x30 k30 3 = v3 at *
          generalize goodR zs x30 = vg at *
          clear hzl
          go_wp2_with fail
          refine (HII.out _ (by omega) rd30).mono ?_
          rintro e w31 ⟨rfl, hb31⟩
          go_wp2_with fail
          have T31 := Box.mk' w31 #[.int .i64 v1, .int .i64 v2, .int .i64 v3] 44
          have ha31 := (Bw.refl w31).alloc (.cells #[.int .i64 v1, .int .i64 v2, .int .i64 v3] 44)
          refine (HIS.out _ (by omega) ((rd30.keep hb31).keep ha31)).mono ?_
          rintro e w32 ⟨rfl, hb32⟩
          have T32 := T31.keep hb32
          have ⟨t0, t1, t2⟩ := T32.c3
          have l32 := T32.lt
          have k32 := (((kI.trans hd30.bw).trans hb31).trans ha31).trans hb32
          have heq := run_eqA3 v1 v2 v3
          clear HII HIS T31 T32 rd30
          cases vg
          · go_wp2_with fail
            go_ret
            exact ⟨ret_bool (by simp), k32.alloc _⟩
          · have hsum := Lib.hid (hcf.out rfl)
            clear hcf
            go_wp2_with fail
            go_ret
            exact ⟨ret_bool (by simp [hsum.out]), k32.alloc _⟩
        · have hgv := hmf.out rfl
          clear hmf
          go_wp2_with (first | (go_at_call 9; refine (c_vRequests _ _ _ _ _ V _ (by omega) rdv rdv2).mono ?_; rintro e w23 ⟨rfl, hb23⟩) | (go_at_call 12; refine (c_AreRequests _ _ _ V y20 hgv _ (by omega) (rdv.keep hb23)).mono ?_; rintro e w24 ⟨rfl, hb24⟩))
          have kI := (k22.trans hb23).trans hb24
          clear rdv rdv2 row21 row22 rd20 hdl hul hgv
          refine (c_DrawStateCounts A n c hn _ (h.keep kI)).mono ?_
          rintro e w30 ⟨A30, k30, d30, zs, x30, rfl, hd30⟩
          have rd30 := hd30.rd
          have hk30 := hd30.le
          have hzl := rd30.requestlen
          have hcf := Lib.hid (show goodR zs x30 = true → stateCounts zs x30 k30 1 + stateCounts zs x30 k30 2 + stateCounts zs x30 k30 3 = k30 from fun hh => by have := count_facts (ts := zs) (base := x30) hh; rw [hzl] at this; exact this)
          have HII := Lib.hid (fun W hn h => c_iStateCounts A30 k30 d30 zs x30 W hn h)
          have HIS := Lib.hid (fun W hn h => c_sStateCounts A30 k30 d30 zs x30 W hn h)
          have b1 := sc_bd zs x30 k30 1
          have b2 := sc_bd zs x30 k30 2
          have b3 := sc_bd zs x30 k30 3
          generalize stateCounts zs x30 k30 1 = v1 at *
          generalize stateCounts zs x30 k30 2 = v2 at *
          generalize stateCounts zs x30 k30 3 = v3 at *
          generalize goodR zs x30 = vg at *
          clear hzl
          go_wp2_with fail
          refine (HII.out _ (by omega) rd30).mono ?_
          rintro e w31 ⟨rfl, hb31⟩
          go_wp2_with fail
          have T31 := Box.mk' w31 #[.int .i64 v1, .int .i64 v2, .int .i64 v3] 44
          have ha31 := (Bw.refl w31).alloc (.cells #[.int .i64 v1, .int .i64 v2, .int .i64 v3] 44)
          refine (HIS.out _ (by omega) ((rd30.keep hb31).keep ha31)).mono ?_
          rintro e w32 ⟨rfl, hb32⟩
          have T32 := T31.keep hb32
          have ⟨t0, t1, t2⟩ := T32.c3
          have l32 := T32.lt
          have k32 := (((kI.trans hd30.bw).trans hb31).trans ha31).trans hb32
          have heq := run_eqA3 v1 v2 v3
          clear HII HIS T31 T32 rd30
          cases vg
          · go_wp2_with fail
            go_ret
            exact ⟨ret_bool (by simp), k32.alloc _⟩
          · have hsum := Lib.hid (hcf.out rfl)
            clear hcf
            go_wp2_with fail
            go_ret
            exact ⟨ret_bool (by simp [hsum.out]), k32.alloc _⟩
end Go.Proofs.Ytnejeigcdogolaa
