
/- The law FnTimers: the walk. -/
import Derived.Test.YtjejfkndiecmaaaTG
import Derived.Test.YtjejfkndiecmaaaTH
import Derived.Test.YtjejfkndiecmaaaCU5
import Derived.Test.YtjejfkndiecmaaaLTimerSteps
namespace Go.Proofs.Ytjejfkndiecmaaa
open Go.RowKit
theorem run_all {ts : List Timer} {now : Int} (h : (runR ts now).2.2 = true) : dueB ts now = true ∧ goodT (runR ts now).1 = true ∧ dueB (runR ts now).1 now = true ∧ dueR (runR ts now).1 now = [] ∧ (dueR ts now).length ≤ (runR ts now).2.1.length ∧ ((runR ts now).2.1 = [] ∧ dueR ts now = [] ∨ ∃ x r s, (runR ts now).2.1 = x :: r ∧ dueR ts now = x :: s) ∧ ∀ x ∈ dueR ts now, x ∈ (runR ts now).2.1 :=
  let r := run_facts h
  ⟨r.due, r.good, r.due2, r.none, r.len, r.hd, r.all⟩
set_option maxRecDepth 100000 in
set_option maxHeartbeats 1000000 in
theorem w_Timers (A : Option Addr) (n c : Nat) (w : World) (hm : n ≤ 9223372036854775807) (h : Code8 w A n) :
    Calls Try.prog 4 #[.slice A n c] w fun e w' => e = .returned (.bool true) ∧ Bw w w' := by
  by_cases hbn : 65536 < n
  · have hbig : decide (65536 < n) = true := by simpa using hbn
    go_enter Try.func4, Try.ntmps4
    go_wp2_with (go_at_call 5; refine (c_rBig _ _ _ hbig hm _).mono ?_; rintro e w1 ⟨rfl, rfl⟩)
    go_ret
    exact ⟨rfl, Bw.refl _⟩
  have hbig : decide (65536 < n) = false := by simpa using hbn
  have hn : n ≤ 1000000 := by omega
  clear hbn
  go_enter Try.func4, Try.ntmps4
  go_wp2_with (go_at_call 5; refine (c_rBig _ _ _ hbig hm _).mono ?_; rintro e w1 ⟨rfl, rfl⟩)
  refine (c_DrawRunTimers A n c hn _ h).mono ?_
  rintro e w1 ⟨⟨A1, k1, d1, ts, now, rfl, hk, row⟩, hb1⟩
  have rd1 := row.rd (fun _ => rfl)
  have hts := row.len
  have hsf := Lib.hid (fun hh => run_all (ts := ts) (now := now) hh)
  have HRI := Lib.hid (fun A n c W hn h => c_iRunTimers A n c ts now W hn h)
  have HRS := Lib.hid (fun A n c W hn h => c_sRunTimers A n c ts now W hn h)
  have HDI := Lib.hid (fun A n c W hn h => c_iDueTimers A n c ts now W hn h)
  have HDS := Lib.hid (fun A n c W hn h => c_sDueTimers A n c ts now W hn h)
  have hrl := runR_lens ts now
  have hdl := dueR_len ts now
  generalize dueR ts now = D at *
  generalize dueB ts now = db at *
  generalize runR ts now = rr at *
  obtain ⟨R, F, rb⟩ := rr
  dsimp only at hsf HRI HRS hrl
  obtain ⟨hrl1, hrl2⟩ := hrl
  go_wp2_with fail
  refine (HRI.out _ _ _ _ (by omega) rd1).mono ?_
  rintro e w2 ⟨⟨A2, c2, B2, d2, rfl, duo2⟩, hb2⟩
  go_wp2_with fail
  refine (HRS.out _ _ _ _ (by omega) (rd1.keep hb2)).mono ?_
  rintro e w3 ⟨⟨A3, c3, B3, d3, rfl, duo3⟩, hb3⟩
  have ra2 := (duo2.a.rd (fun _ => rfl)).keep hb3
  have rb2 := (duo2.b.rd (fun _ => rfl)).keep hb3
  have ra3 := duo3.a.rd (fun _ => rfl)
  have rb3 := duo3.b.rd (fun _ => rfl)
  have hrbb : (rb != rb) = false := by simp
  go_wp2_with (first | (go_at_call 9; refine (c_rTimers _ _ _ _ _ R _ (by omega) ra2 ra3).mono ?_; rintro e w4 ⟨rfl, hb4⟩) | (go_at_call 23; refine (c_rInts _ _ _ _ _ F _ (by omega) (rb2.keep hb4) (rb3.keep hb4)).mono ?_; rintro e w5 ⟨rfl, hb5⟩))
  refine (HDI.out _ _ _ _ (by omega) ((((rd1.keep hb2).keep hb3).keep hb4).keep hb5)).mono ?_
  rintro e w6 ⟨⟨A6, c6, rfl, row6⟩, hb6⟩
  go_wp2_with fail
  refine (HDS.out _ _ _ _ (by omega) (((((rd1.keep hb2).keep hb3).keep hb4).keep hb5).keep hb6)).mono ?_
  rintro e w7 ⟨⟨A7, c7, rfl, row7⟩, hb7⟩
  have rd6 := (row6.rd (fun _ => rfl)).keep hb7
  have rd7 := row7.rd (fun _ => rfl)
  have hdbb : (db != db) = false := by simp
  have ra7 := (((ra2.keep hb4).keep hb5).keep hb6).keep hb7
  have rb7 := (((rb2.keep hb4).keep hb5).keep hb6).keep hb7
  have k7 := (((((hb1.trans hb2).trans hb3).trans hb4).trans hb5).trans hb6).trans hb7
  clear HRI HRS HDI HDS ra2 rb2 ra3 rb3 duo2 duo3 row6 row7 hrbb rd1 row
  cases rb
  · go_wp2_with (go_at_call 23; refine (c_rInts _ _ _ _ _ D _ (by omega) rd6 rd7).mono ?_; rintro e w8 ⟨rfl, hb8⟩)
    have kG := k7.trans hb8
    clear hsf rd6 rd7 ra7 rb7 hdbb hrl1 hrl2 hdl hts
    refine (c_DrawStopTimer A n c hn _ (h.keep kG)).mono ?_
    rintro e w7 ⟨⟨A7, k7, d7, us, id7, rfl, hk7, row7⟩, hb7⟩
    have rd7 := row7.rd (fun _ => rfl)
    have hus := row7.len
    have hff := Lib.hid (fun hh => stop_facts (ts := us) (id := id7) hh)
    have HFI := Lib.hid (fun A n c W hn h => c_iStopTimer A n c us id7 W hn h)
    have HFS := Lib.hid (fun A n c W hn h => c_sStopTimer A n c us id7 W hn h)
    have hfl : (stopT us id7).length ≤ us.length := by
      unfold stopT; split
      · exact wo_len us id7
      · simp
    generalize stopT us id7 = M at *
    generalize stopB us id7 = rf at *
    go_wp2_with fail
    refine (HFI.out _ _ _ _ (by omega) rd7).mono ?_
    rintro e w8 ⟨⟨A8, c8, rfl, row8⟩, hb8⟩
    go_wp2_with fail
    refine (HFS.out _ _ _ _ (by omega) (rd7.keep hb8)).mono ?_
    rintro e w9 ⟨⟨A9, c9, rfl, row9⟩, hb9⟩
    have rd8 := (row8.rd (fun _ => rfl)).keep hb9
    have rd9 := row9.rd (fun _ => rfl)
    have k9 := ((kG.trans hb7).trans hb8).trans hb9
    cases rf
    · go_wp2_with (go_at_call 9; refine (c_rTimers _ _ _ _ _ M _ (by omega) rd8 rd9).mono ?_; rintro e w10 ⟨rfl, hb10⟩)
      have kH := k9.trans hb10
      clear hff HFI HFS row7 rd7 row8 rd8 row9 rd9 hfl hus
      refine (c_DrawNextDue A n c hn _ (h.keep kH)).mono ?_
      rintro e w20 ⟨⟨A20, k20, d20, vs, rfl, hk20, row20⟩, hb20⟩
      have rd20 := row20.rd (fun _ => rfl)
      generalize hn1 : (nextT vs).due = nd
      generalize hn2 : (nextT vs).id = ni
      generalize hn3 : nextC vs = nr
      have HN1 := Lib.hid hn1
      have HN2 := Lib.hid hn2
      have HN3 := Lib.hid hn3
      clear hn1 hn2 hn3
      go_wp2_with fail
      refine (c_iNextDue _ _ _ vs HN1.out HN2.out HN3.out _ (by omega) rd20).mono ?_
      rintro e w21 ⟨rfl, hb21⟩
      go_wp2_with fail
      refine (c_sNextDue _ _ _ vs HN1.out HN2.out HN3.out _ (by omega) (rd20.keep hb21)).mono ?_
      rintro e w22 ⟨rfl, hb22⟩
      go_wp2_with fail
      go_ret
      exact ⟨ret_bool (by simp), ((kH.trans hb20).trans hb21).trans hb22⟩
    · have hf2 := hff.out rfl
      clear hff
      go_wp2_with (go_at_call 9; refine (c_rTimers _ _ _ _ _ M _ (by omega) rd8 rd9).mono ?_; rintro e w10 ⟨rfl, hb10⟩)
      obtain ⟨h1, h2⟩ := hf2
      refine (c_iStopTimer _ _ _ M id7 _ (by omega) (rd8.keep hb10)).mono ?_
      rw [h1]
      rintro e w11 ⟨⟨A11, c11, rfl, row11⟩, hb11⟩
      have hq : (((M.length : Int)) != (k7 : Int) - 1) = false := by simp; omega
      go_wp2_with fail
      have kH := (k9.trans hb10).trans hb11
      clear h1 h2 HFI HFS row7 rd7 row8 rd8 row9 rd9 hfl hus row11 hq
      refine (c_DrawNextDue A n c hn _ (h.keep kH)).mono ?_
      rintro e w20 ⟨⟨A20, k20, d20, vs, rfl, hk20, row20⟩, hb20⟩
      have rd20 := row20.rd (fun _ => rfl)
      generalize hn1 : (nextT vs).due = nd
      generalize hn2 : (nextT vs).id = ni
      generalize hn3 : nextC vs = nr
      have HN1 := Lib.hid hn1
      have HN2 := Lib.hid hn2
      have HN3 := Lib.hid hn3
      clear hn1 hn2 hn3
      go_wp2_with fail
      refine (c_iNextDue _ _ _ vs HN1.out HN2.out HN3.out _ (by omega) rd20).mono ?_
      rintro e w21 ⟨rfl, hb21⟩
      go_wp2_with fail
      refine (c_sNextDue _ _ _ vs HN1.out HN2.out HN3.out _ (by omega) (rd20.keep hb21)).mono ?_
      rintro e w22 ⟨rfl, hb22⟩
      go_wp2_with fail
      go_ret
      exact ⟨ret_bool (by simp), ((kH.trans hb20).trans hb21).trans hb22⟩
  · obtain ⟨rfl, hgR, hd2, hnone, hlen, hhd, hall⟩ := hsf.out rfl
    clear hsf
    go_wp2_with (go_at_call 23; refine (c_rInts _ _ _ _ _ D _ (by omega) rd6 rd7).mono ?_; rintro e w8 ⟨rfl, hb8⟩)
    have ra8 := ra7.keep hb8
    have rb8 := rb7.keep hb8
    have rd8 := rd6.keep hb8
    refine (c_iDueTimers _ _ _ R now _ (by omega) ra8).mono ?_
    rw [hnone, hd2]
    rintro e w9 ⟨⟨A9, c9, rfl, row9⟩, hb9⟩
    have ra9 := ra8.keep hb9
    have HB9 := Lib.hid (rb8.keep hb9)
    have HD9 := Lib.hid (rd8.keep hb9)
    have k9 := (k7.trans hb8).trans hb9
    have HV := Lib.hid (fun (x : Ext w9) => c_IsValidTimers A2 R.length c2 R hgR x.v (by omega) (ra9.keep x.h))
    have hlt : decide ((F.length : Int) < (D.length : Int)) = false := by simp; omega
    have HALL := Lib.hid hall
    clear hnone hd2 hall rd6 rd7 ra7 rb7 ra8 rb8 rd8 row9 ra9 hdbb hgR
    rcases hhd with ⟨rfl, rfl⟩ | ⟨x, r, s, hF, hD⟩
    · clear hlt hlen
      simp only [List.length_nil] at HB9 HD9 hrl2 hdl ⊢
      go_wp2_with fail
      (refine wp_region_ext (by kernel_rfl) (by kernel_rfl) ?_; (repeat (go_big_quiet_step (exact Ext.calls (HV.out _)))); (with_reducible refine wpQuiet_nil ?_); intro w2 hb2)
      go_wp2_with fail
      have kG := k9.trans hb2
      clear HB9 HD9 HV HALL hrl1 hrl2 hdl hts
      go_loopw [17] (fun i wr => i = .int .i64 0 ∧ Bw w wr) (fun i _ => 0)
      case atStart => exact ⟨rfl, kG⟩
      case round =>
        obtain ⟨rfl, kG⟩ := hrel
        go_wp2_with fail
        refine (c_DrawStopTimer A n c hn _ (h.keep kG)).mono ?_
        rintro e w7 ⟨⟨A7, k7, d7, us, id7, rfl, hk7, row7⟩, hb7⟩
        have rd7 := row7.rd (fun _ => rfl)
        have hus := row7.len
        have hff := Lib.hid (fun hh => stop_facts (ts := us) (id := id7) hh)
        have HFI := Lib.hid (fun A n c W hn h => c_iStopTimer A n c us id7 W hn h)
        have HFS := Lib.hid (fun A n c W hn h => c_sStopTimer A n c us id7 W hn h)
        have hfl : (stopT us id7).length ≤ us.length := by
          unfold stopT; split
          · exact wo_len us id7
          · simp
        generalize stopT us id7 = M at *
        generalize stopB us id7 = rf at *
        go_wp2_with fail
        refine (HFI.out _ _ _ _ (by omega) rd7).mono ?_
        rintro e w8 ⟨⟨A8, c8, rfl, row8⟩, hb8⟩
        go_wp2_with fail
        refine (HFS.out _ _ _ _ (by omega) (rd7.keep hb8)).mono ?_
        rintro e w9 ⟨⟨A9, c9, rfl, row9⟩, hb9⟩
        have rd8 := (row8.rd (fun _ => rfl)).keep hb9
        have rd9 := row9.rd (fun _ => rfl)
        have k9 := ((kG.trans hb7).trans hb8).trans hb9
        cases rf
        · go_wp2_with (go_at_call 9; refine (c_rTimers _ _ _ _ _ M _ (by omega) rd8 rd9).mono ?_; rintro e w10 ⟨rfl, hb10⟩)
          have kH := k9.trans hb10
          clear hff HFI HFS row7 rd7 row8 rd8 row9 rd9 hfl hus
          refine (c_DrawNextDue A n c hn _ (h.keep kH)).mono ?_
          rintro e w20 ⟨⟨A20, k20, d20, vs, rfl, hk20, row20⟩, hb20⟩
          have rd20 := row20.rd (fun _ => rfl)
          generalize hn1 : (nextT vs).due = nd
          generalize hn2 : (nextT vs).id = ni
          generalize hn3 : nextC vs = nr
          have HN1 := Lib.hid hn1
          have HN2 := Lib.hid hn2
          have HN3 := Lib.hid hn3
          clear hn1 hn2 hn3
          go_wp2_with fail
          refine (c_iNextDue _ _ _ vs HN1.out HN2.out HN3.out _ (by omega) rd20).mono ?_
          rintro e w21 ⟨rfl, hb21⟩
          go_wp2_with fail
          refine (c_sNextDue _ _ _ vs HN1.out HN2.out HN3.out _ (by omega) (rd20.keep hb21)).mono ?_
          rintro e w22 ⟨rfl, hb22⟩
          go_wp2_with fail
          go_ret
          exact ⟨ret_bool (by simp), ((kH.trans hb20).trans hb21).trans hb22⟩
        · have hf2 := hff.out rfl
          clear hff
          go_wp2_with (go_at_call 9; refine (c_rTimers _ _ _ _ _ M _ (by omega) rd8 rd9).mono ?_; rintro e w10 ⟨rfl, hb10⟩)
          obtain ⟨h1, h2⟩ := hf2
          refine (c_iStopTimer _ _ _ M id7 _ (by omega) (rd8.keep hb10)).mono ?_
          rw [h1]
          rintro e w11 ⟨⟨A11, c11, rfl, row11⟩, hb11⟩
          have hq : (((M.length : Int)) != (k7 : Int) - 1) = false := by simp; omega
          go_wp2_with fail
          have kH := (k9.trans hb10).trans hb11
          clear h1 h2 HFI HFS row7 rd7 row8 rd8 row9 rd9 hfl hus row11 hq
          refine (c_DrawNextDue A n c hn _ (h.keep kH)).mono ?_
          rintro e w20 ⟨⟨A20, k20, d20, vs, rfl, hk20, row20⟩, hb20⟩
          have rd20 := row20.rd (fun _ => rfl)
          generalize hn1 : (nextT vs).due = nd
          generalize hn2 : (nextT vs).id = ni
          generalize hn3 : nextC vs = nr
          have HN1 := Lib.hid hn1
          have HN2 := Lib.hid hn2
          have HN3 := Lib.hid hn3
          clear hn1 hn2 hn3
          go_wp2_with fail
          refine (c_iNextDue _ _ _ vs HN1.out HN2.out HN3.out _ (by omega) rd20).mono ?_
          rintro e w21 ⟨rfl, hb21⟩
          go_wp2_with fail
          refine (c_sNextDue _ _ _ vs HN1.out HN2.out HN3.out _ (by omega) (rd20.keep hb21)).mono ?_
          rintro e w22 ⟨rfl, hb22⟩
          go_wp2_with fail
          go_ret
          exact ⟨ret_bool (by simp), ((kH.trans hb20).trans hb21).trans hb22⟩
    · have f0 : intAt F 0 = x := by rw [hF]; rfl
      have g0 : intAt D 0 = x := by rw [hD]; rfl
      have f1 : 0 < F.length := by rw [hF]; simp
      have g1 : 0 < D.length := by rw [hD]; simp
      clear hF hD
      have eF : ((F.length : Int) == 0) = false := by rw [beq_eq_false_iff_ne]; omega
      have eD : ((D.length : Int) == 0) = false := by rw [beq_eq_false_iff_ne]; omega
      have gD : decide ((0 : Int) < (D.length : Int)) = true := by simp; omega
      obtain ⟨b, off, rfl, hb, hc⟩ := HB9.out.ints f1
      have q0 := hc 0 f1
      obtain ⟨b', off', rfl, hb', hc'⟩ := HD9.out.ints g1
      have p0 := hc' 0 g1
      rw [f0] at q0
      rw [g0] at p0
      simp only [Nat.add_zero] at q0 p0
      clear hc hc' f0 g0
      have xx : (x != x) = false := by simp
      have i1 : (0 : Int) < (F.length : Int) := by omega
      have i2 : (0 : Int) < (D.length : Int) := by omega
      have hlt2 : decide (F.length < D.length) = false := by simp; omega
      have gD2 : decide (0 < D.length) = true := by simp; omega
      have eF2 : (F.length == 0) = false := by rw [beq_eq_false_iff_ne]; omega
      have eD2 : (D.length == 0) = false := by rw [beq_eq_false_iff_ne]; omega
      go_wp2_with fail
      (refine wp_region_ext (by kernel_rfl) (by kernel_rfl) ?_; (repeat (go_big_quiet_step (exact Ext.calls (HV.out _)))); (with_reducible refine wpQuiet_nil ?_); intro w2 hb2)
      go_wp2_with fail
      clear eF eD gD q0 p0 xx i1 i2 HV hlt hlt2 gD2 eF2 eD2
      go_loopw [17] (fun i wr => ∃ k : Nat, k ≤ D.length ∧ i = .int .i64 k ∧ Bw w9 wr) (fun i _ => D.length - (intOf i).toNat)
      case atStart => exact ⟨0, Nat.zero_le _, rfl, hb2⟩
      case round =>
        obtain ⟨k, hk, rfl, hbl⟩ := hrel
        by_cases hkl : k < D.length
        · obtain ⟨b2, off2, hA2, hb2', hc2⟩ := (HD9.out.keep hbl).ints (by omega)
          simp only [Option.some.injEq, Addr.mk.injEq, and_true] at hA2
          obtain ⟨rfl, rfl⟩ := hA2
          have q0 := hc2 k hkl
          clear hc2
          have hh := Lib.hid (show hasI F (intAt D k) = true by simp only [hasI, decide_eq_true_eq]; exact HALL.out _ (by rw [intAt_lt hkl]; exact List.getElem_mem _))
          go_wp2_with (go_at_call 26; refine (c_rHas _ _ _ F (intAt D k) hh.out _ (by omega) (HB9.out.keep hbl)).mono ?_; rintro e w10 ⟨rfl, rfl⟩)
          go_roundw
          case rel => exact ⟨k + 1, by omega, by go_num, hbl⟩
          case measure => simp [intOf]; omega
        · go_wp2_with fail
          have kG := k9.trans hbl
          clear HB9 HD9 HALL hrl1 hrl2 hdl hts hkl hk f1 g1 hlen
          refine (c_DrawStopTimer A n c hn _ (h.keep kG)).mono ?_
          rintro e w7 ⟨⟨A7, k7, d7, us, id7, rfl, hk7, row7⟩, hb7⟩
          have rd7 := row7.rd (fun _ => rfl)
          have hus := row7.len
          have hff := Lib.hid (fun hh => stop_facts (ts := us) (id := id7) hh)
          have HFI := Lib.hid (fun A n c W hn h => c_iStopTimer A n c us id7 W hn h)
          have HFS := Lib.hid (fun A n c W hn h => c_sStopTimer A n c us id7 W hn h)
          have hfl : (stopT us id7).length ≤ us.length := by
            unfold stopT; split
            · exact wo_len us id7
            · simp
          generalize stopT us id7 = M at *
          generalize stopB us id7 = rf at *
          go_wp2_with fail
          refine (HFI.out _ _ _ _ (by omega) rd7).mono ?_
          rintro e w8 ⟨⟨A8, c8, rfl, row8⟩, hb8⟩
          go_wp2_with fail
          refine (HFS.out _ _ _ _ (by omega) (rd7.keep hb8)).mono ?_
          rintro e w9 ⟨⟨A9, c9, rfl, row9⟩, hb9⟩
          have rd8 := (row8.rd (fun _ => rfl)).keep hb9
          have rd9 := row9.rd (fun _ => rfl)
          have k9 := ((kG.trans hb7).trans hb8).trans hb9
          cases rf
          · go_wp2_with (go_at_call 9; refine (c_rTimers _ _ _ _ _ M _ (by omega) rd8 rd9).mono ?_; rintro e w10 ⟨rfl, hb10⟩)
            have kH := k9.trans hb10
            clear hff HFI HFS row7 rd7 row8 rd8 row9 rd9 hfl hus
            refine (c_DrawNextDue A n c hn _ (h.keep kH)).mono ?_
            rintro e w20 ⟨⟨A20, k20, d20, vs, rfl, hk20, row20⟩, hb20⟩
            have rd20 := row20.rd (fun _ => rfl)
            generalize hn1 : (nextT vs).due = nd
            generalize hn2 : (nextT vs).id = ni
            generalize hn3 : nextC vs = nr
            have HN1 := Lib.hid hn1
            have HN2 := Lib.hid hn2
            have HN3 := Lib.hid hn3
            clear hn1 hn2 hn3
            go_wp2_with fail
            refine (c_iNextDue _ _ _ vs HN1.out HN2.out HN3.out _ (by omega) rd20).mono ?_
            rintro e w21 ⟨rfl, hb21⟩
            go_wp2_with fail
            refine (c_sNextDue _ _ _ vs HN1.out HN2.out HN3.out _ (by omega) (rd20.keep hb21)).mono ?_
            rintro e w22 ⟨rfl, hb22⟩
            go_wp2_with fail
            go_ret
            exact ⟨ret_bool (by simp), ((kH.trans hb20).trans hb21).trans hb22⟩
          · have hf2 := hff.out rfl
            clear hff
            go_wp2_with (go_at_call 9; refine (c_rTimers _ _ _ _ _ M _ (by omega) rd8 rd9).mono ?_; rintro e w10 ⟨rfl, hb10⟩)
            obtain ⟨h1, h2⟩ := hf2
            refine (c_iStopTimer _ _ _ M id7 _ (by omega) (rd8.keep hb10)).mono ?_
            rw [h1]
            rintro e w11 ⟨⟨A11, c11, rfl, row11⟩, hb11⟩
            have hq : (((M.length : Int)) != (k7 : Int) - 1) = false := by simp; omega
            go_wp2_with fail
            have kH := (k9.trans hb10).trans hb11
            clear h1 h2 HFI HFS row7 rd7 row8 rd8 row9 rd9 hfl hus row11 hq
            refine (c_DrawNextDue A n c hn _ (h.keep kH)).mono ?_
            rintro e w20 ⟨⟨A20, k20, d20, vs, rfl, hk20, row20⟩, hb20⟩
            have rd20 := row20.rd (fun _ => rfl)
            generalize hn1 : (nextT vs).due = nd
            generalize hn2 : (nextT vs).id = ni
            generalize hn3 : nextC vs = nr
            have HN1 := Lib.hid hn1
            have HN2 := Lib.hid hn2
            have HN3 := Lib.hid hn3
            clear hn1 hn2 hn3
            go_wp2_with fail
            refine (c_iNextDue _ _ _ vs HN1.out HN2.out HN3.out _ (by omega) rd20).mono ?_
            rintro e w21 ⟨rfl, hb21⟩
            go_wp2_with fail
            refine (c_sNextDue _ _ _ vs HN1.out HN2.out HN3.out _ (by omega) (rd20.keep hb21)).mono ?_
            rintro e w22 ⟨rfl, hb22⟩
            go_wp2_with fail
            go_ret
            exact ⟨ret_bool (by simp), ((kH.trans hb20).trans hb21).trans hb22⟩
end Go.Proofs.Ytjejfkndiecmaaa
