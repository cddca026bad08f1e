
/- The law FnRequests: the walk. -/
import Derived.Test.YtnejeigcdogolaaRF
import Derived.Test.YtnejeigcdogolaaCU7
namespace Go.Proofs.Ytnejeigcdogolaa
open Go.RowKit
theorem c_vBig (A : Option Addr) (n c : Nat) {r : Bool} (hr : decide (65536 < n) = r) (hm : n ≤ 9223372036854775807) (w : World) : Calls Try.prog 5 #[.slice A n c] w fun e w' => e = .returned (.bool r) ∧ w = w' := by
  subst hr
  go_enter Try.func5, Try.ntmps5
  go_wp2
  go_ret
  exact ⟨ret_bool (by rw [Bool.eq_iff_iff]; simp; try omega), rfl⟩
theorem c_vRequests (A A' : Option Addr) (n c c' : Nat) (ts : List Request) (w : World) (hm : n ≤ 9223372036854775807) (h : Rd w A n 4 (ts.map Request.cells)) (h' : Rd w A' n 4 (ts.map Request.cells)) :
    Calls Try.prog 9 #[.slice A n c, .slice A' n c'] w fun e w' => e = .returned (.bool true) ∧ Bw w w' := by
  go_enter Try.func9, Try.ntmps9
  go_wp2
  go_loopw [5] (fun i wr => ∃ k : Nat, k ≤ n ∧ i = .int .i64 k ∧ Bw w wr) (fun i _ => n - (intOf i).toNat)
  case atStart => exact ⟨0, Nat.zero_le _, rfl, Bw.refl _⟩
  case round =>
    obtain ⟨k, hk, rfl, hbl⟩ := hrel
    by_cases hlt : k < n
    · obtain ⟨b, off, rfl, hb, hc⟩ := (h.keep hbl).request (by omega)
      obtain ⟨b', off', rfl, hb', hc'⟩ := (h'.keep hbl).request (by omega)
      have ⟨h0, h1, h2, h3⟩ := hc k hlt
      have ⟨p0, p1, p2, p3⟩ := hc' k hlt
      clear hc hc'
      go_wp2
      (refine wp_region_ext (by kernel_rfl) (by kernel_rfl) ?_; (repeat (go_big_quiet_step (fail))); (with_reducible refine wpQuiet_nil ?_); intro w2 hb2)
      go_wp2
      go_roundw
      case rel => exact ⟨k + 1, by omega, by go_num, hbl.trans hb2⟩
      case measure => simp [intOf]; omega
    · go_wp2
      go_ret
      exact ⟨rfl, hbl⟩
theorem c_sAreRequests (A : Option Addr) (n c : Nat) (ts : List Request) (base : Int) {r : Bool} (hr : goodR ts base = r) (w : World) (hm : n ≤ 9223372036854775807) (h : Rd w A n 4 (ts.map Request.cells)) :
    Calls Try.prog 25 #[.slice A n c, .int .i64 base] w fun e w' => e = .returned (.bool r) ∧ Bw w w' := by
  have HR := Lib.hid hr
  clear hr
  go_enter Try.func25, Try.ntmps25
  go_wp2_with (go_at_call 38; refine (c_l12Good _ _ _ ts _ HR.out _ hm h).mono ?_; rintro e w1 ⟨rfl, hb1⟩)
  go_ret
  exact ⟨rfl, hb1⟩
set_option maxRecDepth 100000 in
set_option maxHeartbeats 1000000 in
theorem w_Requests (A : Option Addr) (n c : Nat) (w : World) (hm : n ≤ 9223372036854775807) (h : Code8 w A n) :
    Calls Try.prog 4 #[.slice A n c] w fun e w' => e = .returned (.bool true) ∧ Bw w w' := by
  by_cases hbn : 65536 < n
  · have hbig : decide (65536 < n) = true := by simpa using hbn
    go_enter Try.func4, Try.ntmps4
    go_wp2_with (go_at_call 5; refine (c_vBig _ _ _ hbig hm _).mono ?_; rintro e w1 ⟨rfl, rfl⟩)
    go_ret
    exact ⟨rfl, Bw.refl _⟩
  have hbig : decide (65536 < n) = false := by simpa using hbn
  have hn : n ≤ 1000000 := by omega
  clear hbn
  go_enter Try.func4, Try.ntmps4
  go_wp2_with (go_at_call 5; refine (c_vBig _ _ _ hbig hm _).mono ?_; rintro e w1 ⟨rfl, rfl⟩)
  refine (c_DrawAddRequest A n c hn _ h).mono ?_
  rintro e w1 ⟨A1, k1, d1, ts, base, num, clk, dly, rfl, hd1⟩
  have rd1 := hd1.rd
  have hk1 := hd1.le
  have cap1 := hd1.row.caps.1
  have htl := rd1.requestlen
  have haf := Lib.hid (fun hh => add_facts (ts := ts) (base := base) (number := num) (clock := clk) (delay := dly) hh)
  have HAI := Lib.hid (fun A n c W hn h => c_iAddRequest A n c ts base num clk dly W hn h)
  have HAS := Lib.hid (fun A n c hc W hn h => c_sAddRequest A n c ts base num clk dly hc W hn h)
  have hal := addR_len ts base num clk dly
  generalize addR ts base num clk dly = L at *
  generalize addB ts base num clk dly = rb at *
  generalize hgd : goodR ts base = gd
  have HGD := Lib.hid hgd
  clear hgd
  go_wp2_with fail
  refine (HAI.out _ _ _ _ (by omega) rd1).mono ?_
  rintro e w2 ⟨⟨A2, c2, rfl, row2⟩, hb2⟩
  go_wp2_with fail
  refine (HAS.out _ _ _ cap1 _ (by omega) (rd1.keep hb2)).mono ?_
  rintro e w3 ⟨⟨A3, c3, rfl, row3⟩, hb3⟩
  have rd2 := (row2.rd (fun _ => rfl)).keep hb3
  have rd3 := row3.rd (fun _ => rfl)
  have rd13 := (rd1.keep hb2).keep hb3
  have hgg : (gd != gd) = false := by simp
  have k3 := (hd1.bw.trans hb2).trans hb3
  clear HAI HAS
  cases rb
  · go_wp2_with (first | (go_at_call 9; refine (c_vRequests _ _ _ _ _ L _ (by omega) rd2 rd3).mono ?_; rintro e w4 ⟨rfl, hb4⟩) | (go_at_call 12; refine (c_AreRequests _ _ _ ts base HGD.out _ (by omega) (rd13.keep hb4)).mono ?_; rintro e w5 ⟨rfl, hb5⟩) | (go_at_call 25; refine (c_sAreRequests _ _ _ ts base HGD.out _ (by omega) ((rd13.keep hb4).keep hb5)).mono ?_; rintro e w6 ⟨rfl, hb6⟩))
    have kF := ((k3.trans hb4).trans hb5).trans hb6
    clear haf rd1 rd2 rd3 rd13 row2 row3 hgg HGD hal htl cap1
    refine (c_DrawConfirmRequest A n c hn _ (h.keep kF)).mono ?_
    rintro e w7 ⟨A7, k7, d7, us, st, id, now, rfl, hd7⟩
    have rd7 := hd7.rd
    have hk7 := hd7.le
    have hul := rd7.requestlen
    have hcf := Lib.hid (fun hh => conf_facts (ts := us) (base := st) (number := id) (clock := now) hh)
    have HCI := Lib.hid (fun A n c W hn h => c_iConfirmRequest A n c us st id now W hn h)
    have HCS := Lib.hid (fun A n c W hn h => c_sConfirmRequest A n c us st id now W hn h)
    have hcl := confR_len us st id now
    generalize confR us st id now = M at *
    generalize confB us st id now = rc at *
    go_wp2_with fail
    refine (HCI.out _ _ _ _ (by omega) rd7).mono ?_
    rintro e w8 ⟨⟨A8, c8, rfl, row8⟩, hb8⟩
    go_wp2_with fail
    refine (HCS.out _ _ _ _ (by omega) (rd7.keep hb8)).mono ?_
    rintro e w9 ⟨⟨A9, c9, rfl, row9⟩, hb9⟩
    have rd8 := (row8.rd (fun _ => rfl)).keep hb9
    have rd9 := row9.rd (fun _ => rfl)
    have k9 := ((kF.trans hd7.bw).trans hb8).trans hb9
    clear HCI HCS
    cases rc
    · go_wp2_with (go_at_call 9; refine (c_vRequests _ _ _ _ _ M _ (by omega) rd8 rd9).mono ?_; rintro e w10 ⟨rfl, hb10⟩)
      have kG := k9.trans hb10
      clear hcf rd7 row8 rd8 row9 rd9 hcl hul
      refine (c_DrawDropRequest A n c hn _ (h.keep kG)).mono ?_
      rintro e w20 ⟨A20, k20, d20, us, x20, y20, rfl, hd20⟩
      have rd20 := hd20.rd
      have hk20 := hd20.le
      have hdl := dropR_len us x20 y20
      have hul := rd20.requestlen
      have HDI := Lib.hid (fun A n c W hn h => c_iDropRequest A n c us x20 y20 W hn h)
      have HDS := Lib.hid (fun A n c W hn h => c_sDropRequest A n c us x20 y20 W hn h)
      generalize dropR us x20 y20 = V at *
      generalize dropB us x20 y20 = vb at *
      go_wp2_with fail
      refine (HDI.out _ _ _ _ (by omega) rd20).mono ?_
      rintro e w21 ⟨⟨A21, c21, rfl, row21⟩, hb21⟩
      go_wp2_with fail
      refine (HDS.out _ _ _ _ (by omega) (rd20.keep hb21)).mono ?_
      rintro e w22 ⟨⟨A22, c22, rfl, row22⟩, hb22⟩
      go_wp2_with (go_at_call 9; refine (c_vRequests _ _ _ _ _ V _ (by omega) ((row21.rd (fun _ => rfl)).keep hb22) (row22.rd (fun _ => rfl))).mono ?_; rintro e w23 ⟨rfl, hb23⟩)
      go_ret
      exact ⟨ret_bool (by simp), (((kG.trans hd20.bw).trans hb21).trans hb22).trans hb23⟩
    · obtain ⟨⟨n0, n1⟩, hMl, hMi⟩ := hcf.out rfl
      have HMI := Lib.hid hMi
      have HML := Lib.hid (show M.length = k7 by omega)
      have HUL := Lib.hid hul
      clear hcf hMi hMl
      go_wp2_with (go_at_call 9; refine (c_vRequests _ _ _ _ _ M _ (by omega) rd8 rd9).mono ?_; rintro e w10 ⟨rfl, hb10⟩)
      have HR8 := Lib.hid (rd8.keep hb10)
      have HR7 := Lib.hid (((rd7.keep hb8).keep hb9).keep hb10)
      have k10 := k9.trans hb10
      clear rd7 row8 rd8 row9 rd9 k9
      clear hul
      go_loopw [22] (fun i wr => ∃ k : Nat, k ≤ M.length ∧ i = .int .i64 k ∧ Bw w10 wr) (fun i _ => M.length - (intOf i).toNat)
      case atStart => exact ⟨0, Nat.zero_le _, rfl, Bw.refl _⟩
      case round =>
        obtain ⟨k, hk, rfl, hbl⟩ := hrel
        by_cases hkl : k < M.length
        · obtain ⟨b2, off2, rfl, hb2', hc2⟩ := (HR8.out.keep hbl).request (by omega)
          obtain ⟨b3, off3, rfl, hb3', hc3⟩ := (HR7.out.keep hbl).request (by have := HML.out; omega)
          have ⟨p0, p1, p2, p3⟩ := hc2 k hkl
          have ⟨q0, q1, q2, q3⟩ := hc3 k (by have := HML.out; omega)
          have hm := HMI.out k (by have := HUL.out; have := HML.out; omega)
          clear hc2 hc3
          have i7 : (k : Int) < (k7 : Int) := by have := HML.out; omega
          cases he : ((requestAt M k).number == id)
          · have hee : (requestAt M k).number ≠ id := by simpa using he
            have hne : ((requestAt M k).number != id) = true := by simpa using hee
            have hq := hm.2 hee
            clear hm hee
            rw [hq] at p0 p1 p2 p3 he hne
            have s0 : ((requestAt us k).number != (requestAt us k).number) = false := by simp
            go_wp2_with fail
            (refine wp_region_ext (by kernel_rfl) (by kernel_rfl) ?_; (repeat (go_big_quiet_step (fail))); (with_reducible refine wpQuiet_nil ?_); intro w2 hb2)
            go_wp2_with fail
            go_roundw
            case rel => exact ⟨k + 1, by omega, by go_num, hbl.trans hb2⟩
            case measure => simp [intOf]; omega
          · have hee : (requestAt M k).number = id := by simpa using he
            have hne : ((requestAt M k).number != id) = false := by simpa using hee
            have ⟨hs, ht, hu⟩ := hm.1 hee
            clear hm hee
            rw [hs] at p1
            rw [ht] at p2
            rw [hu] at p3
            have t0 : ((3 : Int) != 3) = false := by simp
            have t1 : ((now + 4) != (now + 4)) = false := by simp
            have t2 : ((requestAt us k).tries != (requestAt us k).tries) = false := by simp
            have t4 := IntWalk.i64_in (now + 4) (by omega)
            go_wp2_with fail
            (refine wp_region_ext (by kernel_rfl) (by kernel_rfl) ?_; (repeat (go_big_quiet_step (fail))); (with_reducible refine wpQuiet_nil ?_); intro w2 hb2)
            go_wp2_with fail
            go_roundw
            case rel => exact ⟨k + 1, by omega, by go_num, hbl.trans hb2⟩
            case measure => simp [intOf]; omega
        · go_wp2_with fail
          have kG := k10.trans hbl
          clear HR8 HR7 HMI HML HUL n0 n1
          refine (c_DrawDropRequest A n c hn _ (h.keep kG)).mono ?_
          rintro e w20 ⟨A20, k20, d20, us, x20, y20, rfl, hd20⟩
          have rd20 := hd20.rd
          have hk20 := hd20.le
          have hdl := dropR_len us x20 y20
          have hul := rd20.requestlen
          have HDI := Lib.hid (fun A n c W hn h => c_iDropRequest A n c us x20 y20 W hn h)
          have HDS := Lib.hid (fun A n c W hn h => c_sDropRequest A n c us x20 y20 W hn h)
          generalize dropR us x20 y20 = V at *
          generalize dropB us x20 y20 = vb at *
          go_wp2_with fail
          refine (HDI.out _ _ _ _ (by omega) rd20).mono ?_
          rintro e w21 ⟨⟨A21, c21, rfl, row21⟩, hb21⟩
          go_wp2_with fail
          refine (HDS.out _ _ _ _ (by omega) (rd20.keep hb21)).mono ?_
          rintro e w22 ⟨⟨A22, c22, rfl, row22⟩, hb22⟩
          go_wp2_with (go_at_call 9; refine (c_vRequests _ _ _ _ _ V _ (by omega) ((row21.rd (fun _ => rfl)).keep hb22) (row22.rd (fun _ => rfl))).mono ?_; rintro e w23 ⟨rfl, hb23⟩)
          go_ret
          exact ⟨ret_bool (by simp), (((kG.trans hd20.bw).trans hb21).trans hb22).trans hb23⟩
  · obtain ⟨hgL, hdb, hdr⟩ := haf.out rfl
    clear haf
    go_wp2_with (first | (go_at_call 9; refine (c_vRequests _ _ _ _ _ L _ (by omega) rd2 rd3).mono ?_; rintro e w4 ⟨rfl, hb4⟩) | (go_at_call 12; refine (c_AreRequests _ _ _ ts base HGD.out _ (by omega) (rd13.keep hb4)).mono ?_; rintro e w5 ⟨rfl, hb5⟩) | (go_at_call 25; refine (c_sAreRequests _ _ _ ts base HGD.out _ (by omega) ((rd13.keep hb4).keep hb5)).mono ?_; rintro e w6 ⟨rfl, hb6⟩))
    have k6 := ((k3.trans hb4).trans hb5).trans hb6
    have rdL := ((rd2.keep hb4).keep hb5).keep hb6
    have rdT := ((rd13.keep hb4).keep hb5).keep hb6
    clear hgg
    refine (c_iDropRequest _ _ _ L base num _ (by omega) rdL).mono ?_
    rw [hdb, hdr, htl]
    rintro e w7 ⟨⟨A7, c7, rfl, row7⟩, hb7⟩
    go_wp2_with (first | (go_at_call 9; refine (c_vRequests _ _ _ _ _ ts _ (by omega) (row7.rd (fun _ => rfl)) (rdT.keep hb7)).mono ?_; rintro e w8 ⟨rfl, hb8⟩) | (go_at_call 12; refine (c_AreRequests _ _ _ L base hgL _ (by omega) ((rdL.keep hb7).keep hb8)).mono ?_; rintro e w9 ⟨rfl, hb9⟩))
    have kF := ((k6.trans hb7).trans hb8).trans hb9
    clear rd1 rd2 rd3 rd13 row2 row3 HGD hal htl cap1 rdL rdT row7 hgL hdb hdr
    refine (c_DrawConfirmRequest A n c hn _ (h.keep kF)).mono ?_
    rintro e w7 ⟨A7, k7, d7, us, st, id, now, rfl, hd7⟩
    have rd7 := hd7.rd
    have hk7 := hd7.le
    have hul := rd7.requestlen
    have hcf := Lib.hid (fun hh => conf_facts (ts := us) (base := st) (number := id) (clock := now) hh)
    have HCI := Lib.hid (fun A n c W hn h => c_iConfirmRequest A n c us st id now W hn h)
    have HCS := Lib.hid (fun A n c W hn h => c_sConfirmRequest A n c us st id now W hn h)
    have hcl := confR_len us st id now
    generalize confR us st id now = M at *
    generalize confB us st id now = rc at *
    go_wp2_with fail
    refine (HCI.out _ _ _ _ (by omega) rd7).mono ?_
    rintro e w8 ⟨⟨A8, c8, rfl, row8⟩, hb8⟩
    go_wp2_with fail
    refine (HCS.out _ _ _ _ (by omega) (rd7.keep hb8)).mono ?_
    rintro e w9 ⟨⟨A9, c9, rfl, row9⟩, hb9⟩
    have rd8 := (row8.rd (fun _ => rfl)).keep hb9
    have rd9 := row9.rd (fun _ => rfl)
    have k9 := ((kF.trans hd7.bw).trans hb8).trans hb9
    clear HCI HCS
    cases rc
    · go_wp2_with (go_at_call 9; refine (c_vRequests _ _ _ _ _ M _ (by omega) rd8 rd9).mono ?_; rintro e w10 ⟨rfl, hb10⟩)
      have kG := k9.trans hb10
      clear hcf rd7 row8 rd8 row9 rd9 hcl hul
      refine (c_DrawDropRequest A n c hn _ (h.keep kG)).mono ?_
      rintro e w20 ⟨A20, k20, d20, us, x20, y20, rfl, hd20⟩
      have rd20 := hd20.rd
      have hk20 := hd20.le
      have hdl := dropR_len us x20 y20
      have hul := rd20.requestlen
      have HDI := Lib.hid (fun A n c W hn h => c_iDropRequest A n c us x20 y20 W hn h)
      have HDS := Lib.hid (fun A n c W hn h => c_sDropRequest A n c us x20 y20 W hn h)
      generalize dropR us x20 y20 = V at *
      generalize dropB us x20 y20 = vb at *
      go_wp2_with fail
      refine (HDI.out _ _ _ _ (by omega) rd20).mono ?_
      rintro e w21 ⟨⟨A21, c21, rfl, row21⟩, hb21⟩
      go_wp2_with fail
      refine (HDS.out _ _ _ _ (by omega) (rd20.keep hb21)).mono ?_
      rintro e w22 ⟨⟨A22, c22, rfl, row22⟩, hb22⟩
      go_wp2_with (go_at_call 9; refine (c_vRequests _ _ _ _ _ V _ (by omega) ((row21.rd (fun _ => rfl)).keep hb22) (row22.rd (fun _ => rfl))).mono ?_; rintro e w23 ⟨rfl, hb23⟩)
      go_ret
      exact ⟨ret_bool (by simp), (((kG.trans hd20.bw).trans hb21).trans hb22).trans hb23⟩
    · obtain ⟨⟨n0, n1⟩, hMl, hMi⟩ := hcf.out rfl
      have HMI := Lib.hid hMi
      have HML := Lib.hid (show M.length = k7 by omega)
      have HUL := Lib.hid hul
      clear hcf hMi hMl
      go_wp2_with (go_at_call 9; refine (c_vRequests _ _ _ _ _ M _ (by omega) rd8 rd9).mono ?_; rintro e w10 ⟨rfl, hb10⟩)
      have HR8 := Lib.hid (rd8.keep hb10)
      have HR7 := Lib.hid (((rd7.keep hb8).keep hb9).keep hb10)
      have k10 := k9.trans hb10
      clear rd7 row8 rd8 row9 rd9 k9
      clear hul
      go_loopw [22] (fun i wr => ∃ k : Nat, k ≤ M.length ∧ i = .int .i64 k ∧ Bw w10 wr) (fun i _ => M.length - (intOf i).toNat)
      case atStart => exact ⟨0, Nat.zero_le _, rfl, Bw.refl _⟩
      case round =>
        obtain ⟨k, hk, rfl, hbl⟩ := hrel
        by_cases hkl : k < M.length
        · obtain ⟨b2, off2, rfl, hb2', hc2⟩ := (HR8.out.keep hbl).request (by omega)
          obtain ⟨b3, off3, rfl, hb3', hc3⟩ := (HR7.out.keep hbl).request (by have := HML.out; omega)
          have ⟨p0, p1, p2, p3⟩ := hc2 k hkl
          have ⟨q0, q1, q2, q3⟩ := hc3 k (by have := HML.out; omega)
          have hm := HMI.out k (by have := HUL.out; have := HML.out; omega)
          clear hc2 hc3
          have i7 : (k : Int) < (k7 : Int) := by have := HML.out; omega
          cases he : ((requestAt M k).number == id)
          · have hee : (requestAt M k).number ≠ id := by simpa using he
            have hne : ((requestAt M k).number != id) = true := by simpa using hee
            have hq := hm.2 hee
            clear hm hee
            rw [hq] at p0 p1 p2 p3 he hne
            have s0 : ((requestAt us k).number != (requestAt us k).number) = false := by simp
            go_wp2_with fail
            (refine wp_region_ext (by kernel_rfl) (by kernel_rfl) ?_; (repeat (go_big_quiet_step (fail))); (with_reducible refine wpQuiet_nil ?_); intro w2 hb2)
            go_wp2_with fail
            go_roundw
            case rel => exact ⟨k + 1, by omega, by go_num, hbl.trans hb2⟩
            case measure => simp [intOf]; omega
          · have hee : (requestAt M k).number = id := by simpa using he
            have hne : ((requestAt M k).number != id) = false := by simpa using hee
            have ⟨hs, ht, hu⟩ := hm.1 hee
            clear hm hee
            rw [hs] at p1
            rw [ht] at p2
            rw [hu] at p3
            have t0 : ((3 : Int) != 3) = false := by simp
            have t1 : ((now + 4) != (now + 4)) = false := by simp
            have t2 : ((requestAt us k).tries != (requestAt us k).tries) = false := by simp
            have t4 := IntWalk.i64_in (now + 4) (by omega)
            go_wp2_with fail
            (refine wp_region_ext (by kernel_rfl) (by kernel_rfl) ?_; (repeat (go_big_quiet_step (fail))); (with_reducible refine wpQuiet_nil ?_); intro w2 hb2)
            go_wp2_with fail
            go_roundw
            case rel => exact ⟨k + 1, by omega, by go_num, hbl.trans hb2⟩
            case measure => simp [intOf]; omega
        · go_wp2_with fail
          have kG := k10.trans hbl
          clear HR8 HR7 HMI HML HUL n0 n1
          refine (c_DrawDropRequest A n c hn _ (h.keep kG)).mono ?_
          rintro e w20 ⟨A20, k20, d20, us, x20, y20, rfl, hd20⟩
          have rd20 := hd20.rd
          have hk20 := hd20.le
          have hdl := dropR_len us x20 y20
          have hul := rd20.requestlen
          have HDI := Lib.hid (fun A n c W hn h => c_iDropRequest A n c us x20 y20 W hn h)
          have HDS := Lib.hid (fun A n c W hn h => c_sDropRequest A n c us x20 y20 W hn h)
          generalize dropR us x20 y20 = V at *
          generalize dropB us x20 y20 = vb at *
          go_wp2_with fail
          refine (HDI.out _ _ _ _ (by omega) rd20).mono ?_
          rintro e w21 ⟨⟨A21, c21, rfl, row21⟩, hb21⟩
          go_wp2_with fail
          refine (HDS.out _ _ _ _ (by omega) (rd20.keep hb21)).mono ?_
          rintro e w22 ⟨⟨A22, c22, rfl, row22⟩, hb22⟩
          go_wp2_with (go_at_call 9; refine (c_vRequests _ _ _ _ _ V _ (by omega) ((row21.rd (fun _ => rfl)).keep hb22) (row22.rd (fun _ => rfl))).mono ?_; rintro e w23 ⟨rfl, hb23⟩)
          go_ret
          exact ⟨ret_bool (by simp), (((kG.trans hd20.bw).trans hb21).trans hb22).trans hb23⟩
end Go.Proofs.Ytnejeigcdogolaa
