
/- The law FnTimerSteps: the walk. -/
import Derived.Test.YtjejfkndiecmaaaTF
import Derived.Test.YtjejfkndiecmaaaCU5
namespace Go.Proofs.Ytjejfkndiecmaaa
open Go.RowKit
theorem c_rBig (A : Option Addr) (n c : Nat) {r : Bool} (hr : decide (65536 < n) = r) (hm : n ≤ 9223372036854775807) (w : World) : Calls Try.prog 5 #[.slice A n c] w fun e w' => e = .returned (.bool r) ∧ w = w' := by
  subst hr
  go_enter Try.func5, Try.ntmps5
  go_wp2
  go_ret
  exact ⟨ret_bool (by rw [Bool.eq_iff_iff]; simp; try omega), rfl⟩
set_option maxRecDepth 100000 in
set_option maxHeartbeats 1000000 in
theorem w_TimerSteps (A : Option Addr) (n c : Nat) (w : World) (hm : n ≤ 9223372036854775807) (h : Code8 w A n) :
    Calls Try.prog 3 #[.slice A n c] w fun e w' => e = .returned (.bool true) ∧ Bw w w' := by
  by_cases hbn : 65536 < n
  · have hbig : decide (65536 < n) = true := by simpa using hbn
    go_enter Try.func3, Try.ntmps3
    go_wp2_with (go_at_call 5; refine (c_rBig _ _ _ hbig hm _).mono ?_; rintro e w1 ⟨rfl, rfl⟩)
    go_ret
    exact ⟨rfl, Bw.refl _⟩
  have hbig : decide (65536 < n) = false := by simpa using hbn
  have hn : n ≤ 1000000 := by omega
  clear hbn
  go_enter Try.func3, Try.ntmps3
  go_wp2_with (go_at_call 5; refine (c_rBig _ _ _ hbig hm _).mono ?_; rintro e w1 ⟨rfl, rfl⟩)
  refine (c_DrawSetTimer A n c hn _ h).mono ?_
  rintro e w1 ⟨⟨A1, k1, d1, ts, i, u, p, rfl, hk, row⟩, hb1⟩
  have rd1 := row.rd (fun _ => rfl)
  have hsf := Lib.hid (fun hh => set_facts (ts := ts) (t := ⟨i, u, p⟩) hh)
  have HC := Lib.hid (fun A n c W hn h => c_iSetTimer A n c ts ⟨i, u, p⟩ W hn h)
  have HD := Lib.hid (fun A n c W hn h => c_sSetTimer A n c ts ⟨i, u, p⟩ W hn h)
  have hsl := setR_len ts ⟨i, u, p⟩
  generalize setR ts ⟨i, u, p⟩ = L at *
  generalize setB ts ⟨i, u, p⟩ = rb at *
  go_wp2_with fail
  have T1 := Box.mk' w1 #[.int .i64 i, .int .i64 u, .int .i64 p] 26
  have ha1 := (Bw.refl w1).alloc (.cells #[.int .i64 i, .int .i64 u, .int .i64 p] 26)
  refine (HC.out _ _ _ _ (by omega) (rd1.keep ha1)).mono ?_
  rintro e w2 ⟨⟨A2, c2, rfl, row2⟩, hb2⟩
  have T2 := T1.keep hb2
  have ⟨t0, t1, t2⟩ := T2.c3
  go_wp2_with fail
  refine (HD.out _ _ _ _ (by omega) ((rd1.keep ha1).keep hb2)).mono ?_
  rintro e w3 ⟨⟨A3, c3, rfl, row3⟩, hb3⟩
  have T3 := T2.keep hb3
  clear t0 t1 t2
  have ⟨t0, t1, t2⟩ := T3.c3
  have rd2 := (row2.rd (fun _ => rfl)).keep hb3
  have rd3 := row3.rd (fun _ => rfl)
  have k3 := ((hb1.trans ha1).trans hb2).trans hb3
  cases rb
  · go_wp2_with (go_at_call 9; refine (c_rTimers _ _ _ _ _ L _ (by omega) rd2 rd3).mono ?_; rintro e w4 ⟨rfl, hb4⟩)
    have kF := k3.trans hb4
    clear hsf rd1 rd2 rd3 row row2 row3 T1 T2 T3 t0 t1 t2 ha1
    refine (c_DrawFireTimer A n c hn _ (h.keep kF)).mono ?_
    rintro e w7 ⟨⟨A7, k7, d7, us, id7, rfl, hk7, row7⟩, hb7⟩
    have rd7 := row7.rd (fun _ => rfl)
    have hus := row7.len
    have hff := Lib.hid (fun hh => fire_facts (ts := us) (id := id7) hh)
    have HFI := Lib.hid (fun A n c W hn h => c_iFireTimer A n c us id7 W hn h)
    have HFS := Lib.hid (fun A n c W hn h => c_sFireTimer A n c us id7 W hn h)
    have hfl := fireR_len us id7
    generalize fireR us id7 = M at *
    generalize stopB us id7 = rf at *
    go_wp2_with fail
    refine (HFI.out _ _ _ _ (by omega) rd7).mono ?_
    rintro e w8 ⟨⟨A8, c8, rfl, row8⟩, hb8⟩
    go_wp2_with fail
    refine (HFS.out _ _ _ _ (by omega) (rd7.keep hb8)).mono ?_
    rintro e w9 ⟨⟨A9, c9, rfl, row9⟩, hb9⟩
    have rd8 := (row8.rd (fun _ => rfl)).keep hb9
    have rd9 := row9.rd (fun _ => rfl)
    have k9 := ((kF.trans hb7).trans hb8).trans hb9
    cases rf
    · go_wp2_with (go_at_call 9; refine (c_rTimers _ _ _ _ _ M _ (by omega) rd8 rd9).mono ?_; rintro e w10 ⟨rfl, hb10⟩)
      have kG := k9.trans hb10
      clear hff HFI HFS row7 rd7 row8 rd8 row9 rd9 hfl hus
      refine (c_DrawBackOff A n c hn _ (h.keep kG)).mono ?_
      rintro e w12 ⟨⟨bi, bu, bp, bx, rfl⟩, hb12⟩
      have hbf := Lib.hid (fun hh => back_facts (i := bi) (d := bu) (p := bp) (most := bx) hh)
      have HBI := Lib.hid (fun W => c_iBackOff bi bu bp bx W)
      have HBS := Lib.hid (fun W => c_sBackOff bi bu bp bx W)
      generalize backOff bi bu bp bx = bo at *
      obtain ⟨⟨ri, rd, rp⟩, rbk⟩ := bo
      go_wp2_with fail
      have k12 := (kG.trans hb12).trans ((Bw.refl w12).alloc (.cells #[.int .i64 bi, .int .i64 bu, .int .i64 bp] 26))
      have T12 := Box.mk' w12 #[.int .i64 bi, .int .i64 bu, .int .i64 bp] 26
      refine (HBI.out _).mono ?_
      rintro e w13 ⟨rfl, hb13⟩
      dsimp only [Timer.out]
      have T13 := T12.keep hb13
      have ⟨t0, t1, t2⟩ := T13.c3
      have l13 := T13.lt
      go_wp2_with fail
      have U13 := Box.mk' w13 #[.int .i64 ri, .int .i64 rd, .int .i64 rp] 26
      refine (HBS.out _).mono ?_
      rintro e w14 ⟨rfl, hb14⟩
      dsimp only [Timer.out]
      have T14 := (T13.keep ((Bw.refl _).alloc _)).keep hb14
      have U14 := U13.keep hb14
      clear t0 t1 t2 l13
      have ⟨t0, t1, t2⟩ := T14.c3
      have ⟨u0, u1, u2⟩ := U14.c3
      have l14 := T14.lt
      have m14 := U14.lt
      have k14 := ((k12.trans hb13).trans ((Bw.refl w13).alloc (.cells #[.int .i64 ri, .int .i64 rd, .int .i64 rp] 26))).trans hb14
      cases rbk
      · go_wp2_with fail
        have kH := k14.trans ((Bw.refl w14).alloc (.cells #[.int .i64 ri, .int .i64 rd, .int .i64 rp] 26))
        clear hbf HBI HBS T12 T13 T14 U13 U14 t0 t1 t2 u0 u1 u2 l14 m14
        refine (c_DrawTicksUntil A n c hn _ (h.keep kH)).mono ?_
        rintro e w20 ⟨⟨A20, k20, d20, vs, x20, y20, rfl, hk20, row20⟩, hb20⟩
        have rd20 := row20.rd (fun _ => rfl)
        generalize hTU : ticksUntil vs x20 y20 = tu
        have HTU := Lib.hid hTU
        clear hTU
        go_wp2_with fail
        refine (c_iTicksUntil _ _ _ vs x20 y20 _ (by omega) rd20).mono ?_
        rw [HTU.out]
        rintro e w21 ⟨rfl, hb21⟩
        go_wp2_with fail
        refine (c_sTicksUntil _ _ _ vs x20 y20 _ (by omega) (rd20.keep hb21)).mono ?_
        rw [HTU.out]
        rintro e w22 ⟨rfl, hb22⟩
        go_wp2_with fail
        go_ret
        exact ⟨ret_bool (by simp), ((kH.trans hb20).trans hb21).trans hb22⟩
      · obtain ⟨f1, f2, rfl, f4, f5⟩ := hbf.out rfl
        try dsimp only at f1 f2 f5
        have n1 : ¬ rp < bp := by omega
        have n2 : ¬ bx < rp := by omega
        have n3 : ((bu + rp) != (bu + rp)) = false := by simp
        go_wp2_with fail
        have kH := k14.trans ((Bw.refl w14).alloc (.cells #[.int .i64 ri, .int .i64 (bu + rp), .int .i64 rp] 26))
        clear hbf HBI HBS T12 T13 T14 U13 U14 t0 t1 t2 u0 u1 u2 l14 m14 n1 n2 n3 f1 f2 f4 f5
        refine (c_DrawTicksUntil A n c hn _ (h.keep kH)).mono ?_
        rintro e w20 ⟨⟨A20, k20, d20, vs, x20, y20, rfl, hk20, row20⟩, hb20⟩
        have rd20 := row20.rd (fun _ => rfl)
        generalize hTU : ticksUntil vs x20 y20 = tu
        have HTU := Lib.hid hTU
        clear hTU
        go_wp2_with fail
        refine (c_iTicksUntil _ _ _ vs x20 y20 _ (by omega) rd20).mono ?_
        rw [HTU.out]
        rintro e w21 ⟨rfl, hb21⟩
        go_wp2_with fail
        refine (c_sTicksUntil _ _ _ vs x20 y20 _ (by omega) (rd20.keep hb21)).mono ?_
        rw [HTU.out]
        rintro e w22 ⟨rfl, hb22⟩
        go_wp2_with fail
        go_ret
        exact ⟨ret_bool (by simp), ((kH.trans hb20).trans hb21).trans hb22⟩
    · have hf2 := hff.out rfl
      clear hff
      go_wp2_with (go_at_call 9; refine (c_rTimers _ _ _ _ _ M _ (by omega) rd8 rd9).mono ?_; rintro e w10 ⟨rfl, hb10⟩)
      have HT1 := Lib.hid (fun W hn h => c_iTicksUntil A7 k7 d7 us id7 0 W hn h)
      have HT2 := Lib.hid (fun A n c W hn h => c_iTicksUntil A n c M id7 0 W hn h)
      generalize ticksUntil us id7 0 = tb at *
      generalize ticksUntil M id7 0 = ta at *
      obtain ⟨tb, one⟩ := tb
      obtain ⟨ta, two⟩ := ta
      obtain ⟨h1, h2⟩ := hf2
      dsimp only at h1 h2
      subst h1
      refine (HT1.out _ (by omega) (((rd7.keep hb8).keep hb9).keep hb10)).mono ?_
      rintro e w11 ⟨rfl, hb11⟩
      go_wp2_with fail
      refine (HT2.out _ _ _ _ (by omega) ((rd8.keep hb10).keep hb11)).mono ?_
      rintro e w12 ⟨rfl, hb12⟩
      have kG := ((k9.trans hb10).trans hb11).trans hb12
      have hle : two = true → ¬ ta ≤ tb := fun hh => by have := h2 hh; omega
      clear HT1 HT2 h2 HFI HFS row7 rd7 row8 rd8 row9 rd9 hfl hus
      cases two
      · go_wp2_with fail
        clear hle
        refine (c_DrawBackOff A n c hn _ (h.keep kG)).mono ?_
        rintro e w12 ⟨⟨bi, bu, bp, bx, rfl⟩, hb12⟩
        have hbf := Lib.hid (fun hh => back_facts (i := bi) (d := bu) (p := bp) (most := bx) hh)
        have HBI := Lib.hid (fun W => c_iBackOff bi bu bp bx W)
        have HBS := Lib.hid (fun W => c_sBackOff bi bu bp bx W)
        generalize backOff bi bu bp bx = bo at *
        obtain ⟨⟨ri, rd, rp⟩, rbk⟩ := bo
        go_wp2_with fail
        have k12 := (kG.trans hb12).trans ((Bw.refl w12).alloc (.cells #[.int .i64 bi, .int .i64 bu, .int .i64 bp] 26))
        have T12 := Box.mk' w12 #[.int .i64 bi, .int .i64 bu, .int .i64 bp] 26
        refine (HBI.out _).mono ?_
        rintro e w13 ⟨rfl, hb13⟩
        dsimp only [Timer.out]
        have T13 := T12.keep hb13
        have ⟨t0, t1, t2⟩ := T13.c3
        have l13 := T13.lt
        go_wp2_with fail
        have U13 := Box.mk' w13 #[.int .i64 ri, .int .i64 rd, .int .i64 rp] 26
        refine (HBS.out _).mono ?_
        rintro e w14 ⟨rfl, hb14⟩
        dsimp only [Timer.out]
        have T14 := (T13.keep ((Bw.refl _).alloc _)).keep hb14
        have U14 := U13.keep hb14
        clear t0 t1 t2 l13
        have ⟨t0, t1, t2⟩ := T14.c3
        have ⟨u0, u1, u2⟩ := U14.c3
        have l14 := T14.lt
        have m14 := U14.lt
        have k14 := ((k12.trans hb13).trans ((Bw.refl w13).alloc (.cells #[.int .i64 ri, .int .i64 rd, .int .i64 rp] 26))).trans hb14
        cases rbk
        · go_wp2_with fail
          have kH := k14.trans ((Bw.refl w14).alloc (.cells #[.int .i64 ri, .int .i64 rd, .int .i64 rp] 26))
          clear hbf HBI HBS T12 T13 T14 U13 U14 t0 t1 t2 u0 u1 u2 l14 m14
          refine (c_DrawTicksUntil A n c hn _ (h.keep kH)).mono ?_
          rintro e w20 ⟨⟨A20, k20, d20, vs, x20, y20, rfl, hk20, row20⟩, hb20⟩
          have rd20 := row20.rd (fun _ => rfl)
          generalize hTU : ticksUntil vs x20 y20 = tu
          have HTU := Lib.hid hTU
          clear hTU
          go_wp2_with fail
          refine (c_iTicksUntil _ _ _ vs x20 y20 _ (by omega) rd20).mono ?_
          rw [HTU.out]
          rintro e w21 ⟨rfl, hb21⟩
          go_wp2_with fail
          refine (c_sTicksUntil _ _ _ vs x20 y20 _ (by omega) (rd20.keep hb21)).mono ?_
          rw [HTU.out]
          rintro e w22 ⟨rfl, hb22⟩
          go_wp2_with fail
          go_ret
          exact ⟨ret_bool (by simp), ((kH.trans hb20).trans hb21).trans hb22⟩
        · obtain ⟨f1, f2, rfl, f4, f5⟩ := hbf.out rfl
          try dsimp only at f1 f2 f5
          have n1 : ¬ rp < bp := by omega
          have n2 : ¬ bx < rp := by omega
          have n3 : ((bu + rp) != (bu + rp)) = false := by simp
          go_wp2_with fail
          have kH := k14.trans ((Bw.refl w14).alloc (.cells #[.int .i64 ri, .int .i64 (bu + rp), .int .i64 rp] 26))
          clear hbf HBI HBS T12 T13 T14 U13 U14 t0 t1 t2 u0 u1 u2 l14 m14 n1 n2 n3 f1 f2 f4 f5
          refine (c_DrawTicksUntil A n c hn _ (h.keep kH)).mono ?_
          rintro e w20 ⟨⟨A20, k20, d20, vs, x20, y20, rfl, hk20, row20⟩, hb20⟩
          have rd20 := row20.rd (fun _ => rfl)
          generalize hTU : ticksUntil vs x20 y20 = tu
          have HTU := Lib.hid hTU
          clear hTU
          go_wp2_with fail
          refine (c_iTicksUntil _ _ _ vs x20 y20 _ (by omega) rd20).mono ?_
          rw [HTU.out]
          rintro e w21 ⟨rfl, hb21⟩
          go_wp2_with fail
          refine (c_sTicksUntil _ _ _ vs x20 y20 _ (by omega) (rd20.keep hb21)).mono ?_
          rw [HTU.out]
          rintro e w22 ⟨rfl, hb22⟩
          go_wp2_with fail
          go_ret
          exact ⟨ret_bool (by simp), ((kH.trans hb20).trans hb21).trans hb22⟩
      · have hle := hle rfl
        go_wp2_with fail
        clear hle
        refine (c_DrawBackOff A n c hn _ (h.keep kG)).mono ?_
        rintro e w12 ⟨⟨bi, bu, bp, bx, rfl⟩, hb12⟩
        have hbf := Lib.hid (fun hh => back_facts (i := bi) (d := bu) (p := bp) (most := bx) hh)
        have HBI := Lib.hid (fun W => c_iBackOff bi bu bp bx W)
        have HBS := Lib.hid (fun W => c_sBackOff bi bu bp bx W)
        generalize backOff bi bu bp bx = bo at *
        obtain ⟨⟨ri, rd, rp⟩, rbk⟩ := bo
        go_wp2_with fail
        have k12 := (kG.trans hb12).trans ((Bw.refl w12).alloc (.cells #[.int .i64 bi, .int .i64 bu, .int .i64 bp] 26))
        have T12 := Box.mk' w12 #[.int .i64 bi, .int .i64 bu, .int .i64 bp] 26
        refine (HBI.out _).mono ?_
        rintro e w13 ⟨rfl, hb13⟩
        dsimp only [Timer.out]
        have T13 := T12.keep hb13
        have ⟨t0, t1, t2⟩ := T13.c3
        have l13 := T13.lt
        go_wp2_with fail
        have U13 := Box.mk' w13 #[.int .i64 ri, .int .i64 rd, .int .i64 rp] 26
        refine (HBS.out _).mono ?_
        rintro e w14 ⟨rfl, hb14⟩
        dsimp only [Timer.out]
        have T14 := (T13.keep ((Bw.refl _).alloc _)).keep hb14
        have U14 := U13.keep hb14
        clear t0 t1 t2 l13
        have ⟨t0, t1, t2⟩ := T14.c3
        have ⟨u0, u1, u2⟩ := U14.c3
        have l14 := T14.lt
        have m14 := U14.lt
        have k14 := ((k12.trans hb13).trans ((Bw.refl w13).alloc (.cells #[.int .i64 ri, .int .i64 rd, .int .i64 rp] 26))).trans hb14
        cases rbk
        · go_wp2_with fail
          have kH := k14.trans ((Bw.refl w14).alloc (.cells #[.int .i64 ri, .int .i64 rd, .int .i64 rp] 26))
          clear hbf HBI HBS T12 T13 T14 U13 U14 t0 t1 t2 u0 u1 u2 l14 m14
          refine (c_DrawTicksUntil A n c hn _ (h.keep kH)).mono ?_
          rintro e w20 ⟨⟨A20, k20, d20, vs, x20, y20, rfl, hk20, row20⟩, hb20⟩
          have rd20 := row20.rd (fun _ => rfl)
          generalize hTU : ticksUntil vs x20 y20 = tu
          have HTU := Lib.hid hTU
          clear hTU
          go_wp2_with fail
          refine (c_iTicksUntil _ _ _ vs x20 y20 _ (by omega) rd20).mono ?_
          rw [HTU.out]
          rintro e w21 ⟨rfl, hb21⟩
          go_wp2_with fail
          refine (c_sTicksUntil _ _ _ vs x20 y20 _ (by omega) (rd20.keep hb21)).mono ?_
          rw [HTU.out]
          rintro e w22 ⟨rfl, hb22⟩
          go_wp2_with fail
          go_ret
          exact ⟨ret_bool (by simp), ((kH.trans hb20).trans hb21).trans hb22⟩
        · obtain ⟨f1, f2, rfl, f4, f5⟩ := hbf.out rfl
          try dsimp only at f1 f2 f5
          have n1 : ¬ rp < bp := by omega
          have n2 : ¬ bx < rp := by omega
          have n3 : ((bu + rp) != (bu + rp)) = false := by simp
          go_wp2_with fail
          have kH := k14.trans ((Bw.refl w14).alloc (.cells #[.int .i64 ri, .int .i64 (bu + rp), .int .i64 rp] 26))
          clear hbf HBI HBS T12 T13 T14 U13 U14 t0 t1 t2 u0 u1 u2 l14 m14 n1 n2 n3 f1 f2 f4 f5
          refine (c_DrawTicksUntil A n c hn _ (h.keep kH)).mono ?_
          rintro e w20 ⟨⟨A20, k20, d20, vs, x20, y20, rfl, hk20, row20⟩, hb20⟩
          have rd20 := row20.rd (fun _ => rfl)
          generalize hTU : ticksUntil vs x20 y20 = tu
          have HTU := Lib.hid hTU
          clear hTU
          go_wp2_with fail
          refine (c_iTicksUntil _ _ _ vs x20 y20 _ (by omega) rd20).mono ?_
          rw [HTU.out]
          rintro e w21 ⟨rfl, hb21⟩
          go_wp2_with fail
          refine (c_sTicksUntil _ _ _ vs x20 y20 _ (by omega) (rd20.keep hb21)).mono ?_
          rw [HTU.out]
          rintro e w22 ⟨rfl, hb22⟩
          go_wp2_with fail
          go_ret
          exact ⟨ret_bool (by simp), ((kH.trans hb20).trans hb21).trans hb22⟩
  · have ⟨hgL, hT⟩ := hsf.out rfl
    go_wp2_with (go_at_call 9; refine (c_rTimers _ _ _ _ _ L _ (by omega) rd2 rd3).mono ?_; rintro e w4 ⟨rfl, hb4⟩; have T4 := T3.keep hb4; clear t0 t1 t2; have ⟨t0, t1, t2⟩ := T4.c3)
    refine (c_iTicksUntil _ _ _ L i 0 _ (by omega) (rd2.keep hb4)).mono ?_
    rw [hT]
    rintro e w5 ⟨rfl, hb5⟩
    have T5 := T4.keep hb5
    clear t0 t1 t2
    have ⟨t0, t1, t2⟩ := T5.c3
    have hue : (u != u) = false := by simp
    go_wp2_with (go_at_call 11; refine (c_IsValidTimers _ _ _ L hgL _ (by omega) ((rd2.keep hb4).keep hb5)).mono ?_; rintro e w6 ⟨rfl, hb6⟩)
    have kF := ((k3.trans hb4).trans hb5).trans hb6
    clear hsf rd1 rd2 rd3 row row2 row3 T1 T2 T3 T4 T5 t0 t1 t2 ha1 hgL hT
    refine (c_DrawFireTimer A n c hn _ (h.keep kF)).mono ?_
    rintro e w7 ⟨⟨A7, k7, d7, us, id7, rfl, hk7, row7⟩, hb7⟩
    have rd7 := row7.rd (fun _ => rfl)
    have hus := row7.len
    have hff := Lib.hid (fun hh => fire_facts (ts := us) (id := id7) hh)
    have HFI := Lib.hid (fun A n c W hn h => c_iFireTimer A n c us id7 W hn h)
    have HFS := Lib.hid (fun A n c W hn h => c_sFireTimer A n c us id7 W hn h)
    have hfl := fireR_len us id7
    generalize fireR us id7 = M at *
    generalize stopB us id7 = rf at *
    go_wp2_with fail
    refine (HFI.out _ _ _ _ (by omega) rd7).mono ?_
    rintro e w8 ⟨⟨A8, c8, rfl, row8⟩, hb8⟩
    go_wp2_with fail
    refine (HFS.out _ _ _ _ (by omega) (rd7.keep hb8)).mono ?_
    rintro e w9 ⟨⟨A9, c9, rfl, row9⟩, hb9⟩
    have rd8 := (row8.rd (fun _ => rfl)).keep hb9
    have rd9 := row9.rd (fun _ => rfl)
    have k9 := ((kF.trans hb7).trans hb8).trans hb9
    cases rf
    · go_wp2_with (go_at_call 9; refine (c_rTimers _ _ _ _ _ M _ (by omega) rd8 rd9).mono ?_; rintro e w10 ⟨rfl, hb10⟩)
      have kG := k9.trans hb10
      clear hff HFI HFS row7 rd7 row8 rd8 row9 rd9 hfl hus
      refine (c_DrawBackOff A n c hn _ (h.keep kG)).mono ?_
      rintro e w12 ⟨⟨bi, bu, bp, bx, rfl⟩, hb12⟩
      have hbf := Lib.hid (fun hh => back_facts (i := bi) (d := bu) (p := bp) (most := bx) hh)
      have HBI := Lib.hid (fun W => c_iBackOff bi bu bp bx W)
      have HBS := Lib.hid (fun W => c_sBackOff bi bu bp bx W)
      generalize backOff bi bu bp bx = bo at *
      obtain ⟨⟨ri, rd, rp⟩, rbk⟩ := bo
      go_wp2_with fail
      have k12 := (kG.trans hb12).trans ((Bw.refl w12).alloc (.cells #[.int .i64 bi, .int .i64 bu, .int .i64 bp] 26))
      have T12 := Box.mk' w12 #[.int .i64 bi, .int .i64 bu, .int .i64 bp] 26
      refine (HBI.out _).mono ?_
      rintro e w13 ⟨rfl, hb13⟩
      dsimp only [Timer.out]
      have T13 := T12.keep hb13
      have ⟨t0, t1, t2⟩ := T13.c3
      have l13 := T13.lt
      go_wp2_with fail
      have U13 := Box.mk' w13 #[.int .i64 ri, .int .i64 rd, .int .i64 rp] 26
      refine (HBS.out _).mono ?_
      rintro e w14 ⟨rfl, hb14⟩
      dsimp only [Timer.out]
      have T14 := (T13.keep ((Bw.refl _).alloc _)).keep hb14
      have U14 := U13.keep hb14
      clear t0 t1 t2 l13
      have ⟨t0, t1, t2⟩ := T14.c3
      have ⟨u0, u1, u2⟩ := U14.c3
      have l14 := T14.lt
      have m14 := U14.lt
      have k14 := ((k12.trans hb13).trans ((Bw.refl w13).alloc (.cells #[.int .i64 ri, .int .i64 rd, .int .i64 rp] 26))).trans hb14
      cases rbk
      · go_wp2_with fail
        have kH := k14.trans ((Bw.refl w14).alloc (.cells #[.int .i64 ri, .int .i64 rd, .int .i64 rp] 26))
        clear hbf HBI HBS T12 T13 T14 U13 U14 t0 t1 t2 u0 u1 u2 l14 m14
        refine (c_DrawTicksUntil A n c hn _ (h.keep kH)).mono ?_
        rintro e w20 ⟨⟨A20, k20, d20, vs, x20, y20, rfl, hk20, row20⟩, hb20⟩
        have rd20 := row20.rd (fun _ => rfl)
        generalize hTU : ticksUntil vs x20 y20 = tu
        have HTU := Lib.hid hTU
        clear hTU
        go_wp2_with fail
        refine (c_iTicksUntil _ _ _ vs x20 y20 _ (by omega) rd20).mono ?_
        rw [HTU.out]
        rintro e w21 ⟨rfl, hb21⟩
        go_wp2_with fail
        refine (c_sTicksUntil _ _ _ vs x20 y20 _ (by omega) (rd20.keep hb21)).mono ?_
        rw [HTU.out]
        rintro e w22 ⟨rfl, hb22⟩
        go_wp2_with fail
        go_ret
        exact ⟨ret_bool (by simp), ((kH.trans hb20).trans hb21).trans hb22⟩
      · obtain ⟨f1, f2, rfl, f4, f5⟩ := hbf.out rfl
        try dsimp only at f1 f2 f5
        have n1 : ¬ rp < bp := by omega
        have n2 : ¬ bx < rp := by omega
        have n3 : ((bu + rp) != (bu + rp)) = false := by simp
        go_wp2_with fail
        have kH := k14.trans ((Bw.refl w14).alloc (.cells #[.int .i64 ri, .int .i64 (bu + rp), .int .i64 rp] 26))
        clear hbf HBI HBS T12 T13 T14 U13 U14 t0 t1 t2 u0 u1 u2 l14 m14 n1 n2 n3 f1 f2 f4 f5
        refine (c_DrawTicksUntil A n c hn _ (h.keep kH)).mono ?_
        rintro e w20 ⟨⟨A20, k20, d20, vs, x20, y20, rfl, hk20, row20⟩, hb20⟩
        have rd20 := row20.rd (fun _ => rfl)
        generalize hTU : ticksUntil vs x20 y20 = tu
        have HTU := Lib.hid hTU
        clear hTU
        go_wp2_with fail
        refine (c_iTicksUntil _ _ _ vs x20 y20 _ (by omega) rd20).mono ?_
        rw [HTU.out]
        rintro e w21 ⟨rfl, hb21⟩
        go_wp2_with fail
        refine (c_sTicksUntil _ _ _ vs x20 y20 _ (by omega) (rd20.keep hb21)).mono ?_
        rw [HTU.out]
        rintro e w22 ⟨rfl, hb22⟩
        go_wp2_with fail
        go_ret
        exact ⟨ret_bool (by simp), ((kH.trans hb20).trans hb21).trans hb22⟩
    · have hf2 := hff.out rfl
      clear hff
      go_wp2_with (go_at_call 9; refine (c_rTimers _ _ _ _ _ M _ (by omega) rd8 rd9).mono ?_; rintro e w10 ⟨rfl, hb10⟩)
      have HT1 := Lib.hid (fun W hn h => c_iTicksUntil A7 k7 d7 us id7 0 W hn h)
      have HT2 := Lib.hid (fun A n c W hn h => c_iTicksUntil A n c M id7 0 W hn h)
      generalize ticksUntil us id7 0 = tb at *
      generalize ticksUntil M id7 0 = ta at *
      obtain ⟨tb, one⟩ := tb
      obtain ⟨ta, two⟩ := ta
      obtain ⟨h1, h2⟩ := hf2
      dsimp only at h1 h2
      subst h1
      refine (HT1.out _ (by omega) (((rd7.keep hb8).keep hb9).keep hb10)).mono ?_
      rintro e w11 ⟨rfl, hb11⟩
      go_wp2_with fail
      refine (HT2.out _ _ _ _ (by omega) ((rd8.keep hb10).keep hb11)).mono ?_
      rintro e w12 ⟨rfl, hb12⟩
      have kG := ((k9.trans hb10).trans hb11).trans hb12
      have hle : two = true → ¬ ta ≤ tb := fun hh => by have := h2 hh; omega
      clear HT1 HT2 h2 HFI HFS row7 rd7 row8 rd8 row9 rd9 hfl hus
      cases two
      · go_wp2_with fail
        clear hle
        refine (c_DrawBackOff A n c hn _ (h.keep kG)).mono ?_
        rintro e w12 ⟨⟨bi, bu, bp, bx, rfl⟩, hb12⟩
        have hbf := Lib.hid (fun hh => back_facts (i := bi) (d := bu) (p := bp) (most := bx) hh)
        have HBI := Lib.hid (fun W => c_iBackOff bi bu bp bx W)
        have HBS := Lib.hid (fun W => c_sBackOff bi bu bp bx W)
        generalize backOff bi bu bp bx = bo at *
        obtain ⟨⟨ri, rd, rp⟩, rbk⟩ := bo
        go_wp2_with fail
        have k12 := (kG.trans hb12).trans ((Bw.refl w12).alloc (.cells #[.int .i64 bi, .int .i64 bu, .int .i64 bp] 26))
        have T12 := Box.mk' w12 #[.int .i64 bi, .int .i64 bu, .int .i64 bp] 26
        refine (HBI.out _).mono ?_
        rintro e w13 ⟨rfl, hb13⟩
        dsimp only [Timer.out]
        have T13 := T12.keep hb13
        have ⟨t0, t1, t2⟩ := T13.c3
        have l13 := T13.lt
        go_wp2_with fail
        have U13 := Box.mk' w13 #[.int .i64 ri, .int .i64 rd, .int .i64 rp] 26
        refine (HBS.out _).mono ?_
        rintro e w14 ⟨rfl, hb14⟩
        dsimp only [Timer.out]
        have T14 := (T13.keep ((Bw.refl _).alloc _)).keep hb14
        have U14 := U13.keep hb14
        clear t0 t1 t2 l13
        have ⟨t0, t1, t2⟩ := T14.c3
        have ⟨u0, u1, u2⟩ := U14.c3
        have l14 := T14.lt
        have m14 := U14.lt
        have k14 := ((k12.trans hb13).trans ((Bw.refl w13).alloc (.cells #[.int .i64 ri, .int .i64 rd, .int .i64 rp] 26))).trans hb14
        cases rbk
        · go_wp2_with fail
          have kH := k14.trans ((Bw.refl w14).alloc (.cells #[.int .i64 ri, .int .i64 rd, .int .i64 rp] 26))
          clear hbf HBI HBS T12 T13 T14 U13 U14 t0 t1 t2 u0 u1 u2 l14 m14
          refine (c_DrawTicksUntil A n c hn _ (h.keep kH)).mono ?_
          rintro e w20 ⟨⟨A20, k20, d20, vs, x20, y20, rfl, hk20, row20⟩, hb20⟩
          have rd20 := row20.rd (fun _ => rfl)
          generalize hTU : ticksUntil vs x20 y20 = tu
          have HTU := Lib.hid hTU
          clear hTU
          go_wp2_with fail
          refine (c_iTicksUntil _ _ _ vs x20 y20 _ (by omega) rd20).mono ?_
          rw [HTU.out]
          rintro e w21 ⟨rfl, hb21⟩
          go_wp2_with fail
          refine (c_sTicksUntil _ _ _ vs x20 y20 _ (by omega) (rd20.keep hb21)).mono ?_
          rw [HTU.out]
          rintro e w22 ⟨rfl, hb22⟩
          go_wp2_with fail
          go_ret
          exact ⟨ret_bool (by simp), ((kH.trans hb20).trans hb21).trans hb22⟩
        · obtain ⟨f1, f2, rfl, f4, f5⟩ := hbf.out rfl
          try dsimp only at f1 f2 f5
          have n1 : ¬ rp < bp := by omega
          have n2 : ¬ bx < rp := by omega
          have n3 : ((bu + rp) != (bu + rp)) = false := by simp
          go_wp2_with fail
          have kH := k14.trans ((Bw.refl w14).alloc (.cells #[.int .i64 ri, .int .i64 (bu + rp), .int .i64 rp] 26))
          clear hbf HBI HBS T12 T13 T14 U13 U14 t0 t1 t2 u0 u1 u2 l14 m14 n1 n2 n3 f1 f2 f4 f5
          refine (c_DrawTicksUntil A n c hn _ (h.keep kH)).mono ?_
          rintro e w20 ⟨⟨A20, k20, d20, vs, x20, y20, rfl, hk20, row20⟩, hb20⟩
          have rd20 := row20.rd (fun _ => rfl)
          generalize hTU : ticksUntil vs x20 y20 = tu
          have HTU := Lib.hid hTU
          clear hTU
          go_wp2_with fail
          refine (c_iTicksUntil _ _ _ vs x20 y20 _ (by omega) rd20).mono ?_
          rw [HTU.out]
          rintro e w21 ⟨rfl, hb21⟩
          go_wp2_with fail
          refine (c_sTicksUntil _ _ _ vs x20 y20 _ (by omega) (rd20.keep hb21)).mono ?_
          rw [HTU.out]
          rintro e w22 ⟨rfl, hb22⟩
          go_wp2_with fail
          go_ret
          exact ⟨ret_bool (by simp), ((kH.trans hb20).trans hb21).trans hb22⟩
      · have hle := hle rfl
        go_wp2_with fail
        clear hle
        refine (c_DrawBackOff A n c hn _ (h.keep kG)).mono ?_
        rintro e w12 ⟨⟨bi, bu, bp, bx, rfl⟩, hb12⟩
        have hbf := Lib.hid (fun hh => back_facts (i := bi) (d := bu) (p := bp) (most := bx) hh)
        have HBI := Lib.hid (fun W => c_iBackOff bi bu bp bx W)
        have HBS := Lib.hid (fun W => c_sBackOff bi bu bp bx W)
        generalize backOff bi bu bp bx = bo at *
        obtain ⟨⟨ri, rd, rp⟩, rbk⟩ := bo
        go_wp2_with fail
        have k12 := (kG.trans hb12).trans ((Bw.refl w12).alloc (.cells #[.int .i64 bi, .int .i64 bu, .int .i64 bp] 26))
        have T12 := Box.mk' w12 #[.int .i64 bi, .int .i64 bu, .int .i64 bp] 26
        refine (HBI.out _).mono ?_
        rintro e w13 ⟨rfl, hb13⟩
        dsimp only [Timer.out]
        have T13 := T12.keep hb13
        have ⟨t0, t1, t2⟩ := T13.c3
        have l13 := T13.lt
        go_wp2_with fail
        have U13 := Box.mk' w13 #[.int .i64 ri, .int .i64 rd, .int .i64 rp] 26
        refine (HBS.out _).mono ?_
        rintro e w14 ⟨rfl, hb14⟩
        dsimp only [Timer.out]
        have T14 := (T13.keep ((Bw.refl _).alloc _)).keep hb14
        have U14 := U13.keep hb14
        clear t0 t1 t2 l13
        have ⟨t0, t1, t2⟩ := T14.c3
        have ⟨u0, u1, u2⟩ := U14.c3
        have l14 := T14.lt
        have m14 := U14.lt
        have k14 := ((k12.trans hb13).trans ((Bw.refl w13).alloc (.cells #[.int .i64 ri, .int .i64 rd, .int .i64 rp] 26))).trans hb14
        cases rbk
        · go_wp2_with fail
          have kH := k14.trans ((Bw.refl w14).alloc (.cells #[.int .i64 ri, .int .i64 rd, .int .i64 rp] 26))
          clear hbf HBI HBS T12 T13 T14 U13 U14 t0 t1 t2 u0 u1 u2 l14 m14
          refine (c_DrawTicksUntil A n c hn _ (h.keep kH)).mono ?_
          rintro e w20 ⟨⟨A20, k20, d20, vs, x20, y20, rfl, hk20, row20⟩, hb20⟩
          have rd20 := row20.rd (fun _ => rfl)
          generalize hTU : ticksUntil vs x20 y20 = tu
          have HTU := Lib.hid hTU
          clear hTU
          go_wp2_with fail
          refine (c_iTicksUntil _ _ _ vs x20 y20 _ (by omega) rd20).mono ?_
          rw [HTU.out]
          rintro e w21 ⟨rfl, hb21⟩
          go_wp2_with fail
          refine (c_sTicksUntil _ _ _ vs x20 y20 _ (by omega) (rd20.keep hb21)).mono ?_
          rw [HTU.out]
          rintro e w22 ⟨rfl, hb22⟩
          go_wp2_with fail
          go_ret
          exact ⟨ret_bool (by simp), ((kH.trans hb20).trans hb21).trans hb22⟩
        · obtain ⟨f1, f2, rfl, f4, f5⟩ := hbf.out rfl
          try dsimp only at f1 f2 f5
          have n1 : ¬ rp < bp := by omega
          have n2 : ¬ bx < rp := by omega
          have n3 : ((bu + rp) != (bu + rp)) = false := by simp
          go_wp2_with fail
          have kH := k14.trans ((Bw.refl w14).alloc (.cells #[.int .i64 ri, .int .i64 (bu + rp), .int .i64 rp] 26))
          clear hbf HBI HBS T12 T13 T14 U13 U14 t0 t1 t2 u0 u1 u2 l14 m14 n1 n2 n3 f1 f2 f4 f5
          refine (c_DrawTicksUntil A n c hn _ (h.keep kH)).mono ?_
          rintro e w20 ⟨⟨A20, k20, d20, vs, x20, y20, rfl, hk20, row20⟩, hb20⟩
          have rd20 := row20.rd (fun _ => rfl)
          generalize hTU : ticksUntil vs x20 y20 = tu
          have HTU := Lib.hid hTU
          clear hTU
          go_wp2_with fail
          refine (c_iTicksUntil _ _ _ vs x20 y20 _ (by omega) rd20).mono ?_
          rw [HTU.out]
          rintro e w21 ⟨rfl, hb21⟩
          go_wp2_with fail
          refine (c_sTicksUntil _ _ _ vs x20 y20 _ (by omega) (rd20.keep hb21)).mono ?_
          rw [HTU.out]
          rintro e w22 ⟨rfl, hb22⟩
          go_wp2_with fail
          go_ret
          exact ⟨ret_bool (by simp), ((kH.trans hb20).trans hb21).trans hb22⟩
end Go.Proofs.Ytjejfkndiecmaaa
