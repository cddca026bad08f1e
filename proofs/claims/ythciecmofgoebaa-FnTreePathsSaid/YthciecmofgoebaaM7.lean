
/- The law FnTreePaths: the walk. -/
import Derived.Test.YthciecmofgoebaaM3
import Derived.Test.YthciecmofgoebaaM6
import Derived.Test.YthciecmofgoebaaTH
namespace Go.Proofs.Ythciecmofgoebaa
open Go.RowKit
theorem c_vBig (A : Option Addr) (n c : Nat) {r : Bool} (hr : decide (65536 < n) = r) (hm : n ≤ 9223372036854775807) (w : World) :
    Calls Try.prog 4 #[.slice A n c] w fun e w' => e = .returned (.bool r) ∧ w = w' := by
  cases r
  · have h1 : ¬ (65536 : Int) < n := by simp at hr; omega
    go_enter Try.func4, Try.ntmps4
    go_wp2
    go_ret
    exact ⟨rfl, rfl⟩
  · have h1 : (65536 : Int) < n := by simp at hr; omega
    go_enter Try.func4, Try.ntmps4
    go_wp2
    go_ret
    exact ⟨rfl, rfl⟩
set_option maxRecDepth 100000 in
set_option maxHeartbeats 2000000 in
theorem w_TreePaths (A : Option Addr) (n c : Nat) (w : World) (hm : n ≤ 9223372036854775807) (h : Code8 w A n) :
    Calls Try.prog 3 #[.slice A n c] w fun e w' => e = .returned (.bool true) ∧ Bw w w' := by
  by_cases hbn : 65536 < n
  · have hbig : decide (65536 < n) = true := by simpa using hbn
    go_enter Try.func3, Try.ntmps3
    go_wp2_with (go_at_call 4; refine (c_vBig _ _ _ hbig hm _).mono ?_; rintro e w1 ⟨rfl, rfl⟩)
    go_ret
    exact ⟨rfl, Bw.refl _⟩
  · have hbig : decide (65536 < n) = false := by simpa using hbn
    have hn : n ≤ 1000000 := by omega
    go_enter Try.func3, Try.ntmps3
    go_wp2_with (go_at_call 4; refine (c_vBig _ _ _ hbig hm _).mono ?_; rintro e w1 ⟨rfl, rfl⟩)
    clear hbig hbn
    refine (c_DrawPathTo A n c hn _ h).mono ?_
    rintro e w1 ⟨⟨A1, k1, d1, ps, x, rfl, hk1, row1⟩, hb1⟩
    have rd1 := row1.rd (fun _ => rfl)
    have hpl := rd1.ilen
    have HBL := Lib.hid (show ∀ b ∈ belowR ps x, nodeP ps b = true ∧ hasI (pathR ps b) x = true ∧ faceB ps x b = !(b == x) from fun b hb => by
      cases hx : nodeP ps x
      · simp [belowR, hx] at hb
      · exact below_mem hx hb)
    have hlP := pathR_len ps x
    have hlB := belowR_len ps x
    have HIP := Lib.hid (fun W hn h => c_iPathTo A1 k1 d1 ps x W hn h)
    have HSP := Lib.hid (fun W hn h => c_sPathTo A1 k1 d1 ps x W hn h)
    have HIB := Lib.hid (fun W hn h => c_iNodesBelow A1 k1 d1 ps x W hn h)
    have HSB := Lib.hid (fun W hn h => c_sNodesBelow A1 k1 d1 ps x W hn h)
    generalize hrb : nodeP ps x = rb at *
    generalize pathR ps x = P at *
    generalize belowR ps x = L at *
    have HN := Lib.hid hrb
    clear hrb
    have rbb : (rb != rb) = false := by simp
    have j0 := (Bw.refl w1).alloc (.cells #[.slice A1 k1 d1] 26)
    go_wp2_with fail
    refine (HIP.out _ (by omega) (rd1.keep j0)).mono ?_
    rintro e w2 ⟨⟨A2, c2, rfl, row2⟩, hb2⟩
    have d2 := hb2.cellv (p := ⟨w1.heap.size, 0, none⟩) (v := .slice A1 k1 d1) (by go_simp)
    have j2 := j0.trans hb2
    go_wp2_with fail
    refine (HSP.out _ (by omega) (rd1.keep j2)).mono ?_
    rintro e w3 ⟨⟨A3, c3, rfl, row3⟩, hb3⟩
    have d3 := hb3.cellv d2
    have j3 := j2.trans hb3
    go_wp2_with (go_at_call 8; refine (c_vInts _ _ _ _ _ P _ (by omega) ((row2.rd (fun _ => rfl)).keep hb3) (row3.rd (fun _ => rfl))).mono ?_; rintro e w4 ⟨rfl, hb4⟩; have d4 := hb4.cellv d3)
    have j4 := j3.trans hb4
    refine (HIB.out _ (by omega) (rd1.keep j4)).mono ?_
    rintro e w5 ⟨⟨A5, c5, rfl, row5⟩, hb5⟩
    have d5 := hb5.cellv d4
    have j5 := j4.trans hb5
    go_wp2_with fail
    refine (HSB.out _ (by omega) (rd1.keep j5)).mono ?_
    rintro e w6 ⟨⟨A6, c6, rfl, row6⟩, hb6⟩
    have d6 := hb6.cellv d5
    have j6 := j5.trans hb6
    have rd5 := (row5.rd (fun _ => rfl)).keep hb6
    go_wp2_with (go_at_call 8; refine (c_vInts _ _ _ _ _ L _ (by omega) rd5 (row6.rd (fun _ => rfl))).mono ?_; rintro e w7 ⟨rfl, hb7⟩; have d7 := hb7.cellv d6)
    have j7 := j6.trans hb7
    have rdL := rd5.keep hb7
    clear d2 d3 d4 d5 d6 j0 j2 j3 j4 j5 row2 row3 row6 rd5 HIP HSP HIB HSB
    go_loopw [13] (fun i wr => ∃ k : Nat, k ≤ L.length ∧ i = .int .i64 k ∧ Bw w7 wr) (fun i _ => L.length - (intOf i).toNat)
    case atStart => exact ⟨0, Nat.zero_le _, rfl, Bw.refl _⟩
    case round =>
      obtain ⟨k, hk, rfl, hbl⟩ := hrel
      have dB := hbl.cellv d7
      have jB := j7.trans hbl
      have rdB := rd1.keep jB
      have kB := hb1.trans jB
      by_cases hlt : k < L.length
      · obtain ⟨g, off, rfl, hgl, hc⟩ := (rdL.keep hbl).ints (by omega)
        have q0 := hc k hlt
        clear hc
        have hbm := HBL.out (intAt L k) (by rw [intAt_lt hlt]; exact List.getElem_mem _)
        generalize intAt L k = y at q0 hbm
        obtain ⟨b1, b2, b3⟩ := hbm
        have HIP := Lib.hid (fun W hn h => c_iPathTo A1 k1 d1 ps y W hn h)
        have HIF := Lib.hid (fun W hn h => c_iFaceTo A1 k1 d1 ps x y (m := faceN ps x y) (r := faceB ps x y) rfl rfl W hn h)
        have hyl := pathR_len ps y
        have hfp := face_parent (ps := ps) (a := x) (b := y)
        rw [b1] at HIP
        rw [b3] at HIF hfp
        generalize pathR ps y = Py at *
        generalize faceN ps x y = fy at *
        clear b1 b3
        cases hxy : (y == x)
        · have hne : (y != x) = true := by simp [bne, hxy]
          obtain ⟨f, rfl, hf, hpf⟩ := hfp (by rw [hxy]; rfl)
          rw [hxy] at HIF
          obtain ⟨g1, rfl, _, _⟩ := row1.form (by omega)
          obtain ⟨g2, off2, hA, _, hc2⟩ := rdB.ints (by omega)
          simp only [Option.some.injEq, Addr.mk.injEq, and_true] at hA
          obtain ⟨rfl, rfl⟩ := hA
          have p0 := hc2 f (by omega)
          rw [hpf, Nat.zero_add] at p0
          have hf0 : (f : Int) < k1 := by omega
          have hf1 : f < k1 := by omega
          clear hc2
          go_wp2_with fail
          go_region_held3 (fun W => W.cell? ⟨w1.heap.size, 0, none⟩ = some (.slice (some ⟨g1, 0, none⟩) k1 d1) ∧ W.cell? ⟨g, off + k, none⟩ = some (.int .i64 y) ∧ Bw wr W) (first | exact ⟨dB, q0, Bw.drew (Bw.refl _)⟩ | exact ⟨hz1.cellv s1, hz1.cellv s2, hz1b⟩ | (simp_all; done)) (first | ((have hS := ‹World.cell? _ _ = _ ∧ World.cell? _ _ = _ ∧ Bw wr _›); (obtain ⟨s1, s2, s3⟩ := hS); (go_at_call 6); refine (HIP.out _ (by omega) (rdB.keep s3)).mono ?_; rintro e z1 ⟨⟨Z1, zc1, rfl, rowz⟩, hz1⟩; have hz1b := Bw.trans s3 hz1))
          have dz := hz1b.cellv dB
          have qz := hz1b.cellv q0
          go_wp2_with fail
          go_region_held3 (fun W => W.cell? ⟨w1.heap.size, 0, none⟩ = some (.slice (some ⟨g1, 0, none⟩) k1 d1) ∧ W.cell? ⟨g, off + k, none⟩ = some (.int .i64 y) ∧ Bw z1 W) (first | exact ⟨dz, qz, Bw.drew (Bw.refl _)⟩ | exact ⟨hz2.cellv s1, hz2.cellv s2, hz2b⟩ | (simp_all; done)) (first | ((have hS := ‹World.cell? _ _ = _ ∧ World.cell? _ _ = _ ∧ Bw z1 _›); (obtain ⟨s1, s2, s3⟩ := hS); (go_at_call 11); refine (HIF.out _ (by omega) (rdB.keep (hz1b.trans s3))).mono ?_; rintro e z2 ⟨rfl, hz2⟩; have hz2b := Bw.trans s3 hz2))
          have j12 := hz1b.trans hz2b
          have dz2 := j12.cellv dB
          have qz2 := j12.cellv q0
          have pz2 := j12.cellv p0
          go_wp2_with (go_at_call 12; refine (c_vHas _ _ _ Py x b2 _ (by omega) ((rowz.rd (fun _ => rfl)).keep hz2b)).mono ?_; rintro e _ ⟨rfl, rfl⟩)
          go_roundw
          case rel => exact ⟨k + 1, by omega, by go_num, hbl.trans j12⟩
          case measure => simp [intOf]; omega
        · have hne : (y != x) = false := by simp [bne, hxy]
          rw [hxy] at HIF
          go_wp2_with fail
          go_region_held3 (fun W => W.cell? ⟨w1.heap.size, 0, none⟩ = some (.slice A1 k1 d1) ∧ W.cell? ⟨g, off + k, none⟩ = some (.int .i64 y) ∧ Bw wr W) (first | exact ⟨dB, q0, Bw.drew (Bw.refl _)⟩ | exact ⟨hz1.cellv s1, hz1.cellv s2, hz1b⟩ | (simp_all; done)) (first | ((have hS := ‹World.cell? _ _ = _ ∧ World.cell? _ _ = _ ∧ Bw wr _›); (obtain ⟨s1, s2, s3⟩ := hS); (go_at_call 6); refine (HIP.out _ (by omega) (rdB.keep s3)).mono ?_; rintro e z1 ⟨⟨Z1, zc1, rfl, rowz⟩, hz1⟩; have hz1b := Bw.trans s3 hz1))
          have dz := hz1b.cellv dB
          have qz := hz1b.cellv q0
          go_wp2_with fail
          go_region_held3 (fun W => W.cell? ⟨w1.heap.size, 0, none⟩ = some (.slice A1 k1 d1) ∧ W.cell? ⟨g, off + k, none⟩ = some (.int .i64 y) ∧ Bw z1 W) (first | exact ⟨dz, qz, Bw.drew (Bw.refl _)⟩ | exact ⟨hz2.cellv s1, hz2.cellv s2, hz2b⟩ | (simp_all; done)) (first | ((have hS := ‹World.cell? _ _ = _ ∧ World.cell? _ _ = _ ∧ Bw z1 _›); (obtain ⟨s1, s2, s3⟩ := hS); (go_at_call 11); refine (HIF.out _ (by omega) (rdB.keep (hz1b.trans s3))).mono ?_; rintro e z2 ⟨rfl, hz2⟩; have hz2b := Bw.trans s3 hz2))
          have j12 := hz1b.trans hz2b
          have qz2 := j12.cellv q0
          go_wp2_with (go_at_call 12; refine (c_vHas _ _ _ Py x b2 _ (by omega) ((rowz.rd (fun _ => rfl)).keep hz2b)).mono ?_; rintro e _ ⟨rfl, rfl⟩)
          go_roundw
          case rel => exact ⟨k + 1, by omega, by go_num, hbl.trans j12⟩
          case measure => simp [intOf]; omega
      · go_wp2_with fail
        clear rbb
        refine (c_DrawMeetingNode A n c hn _ (h.keep kB)).mono ?_
        rintro e v1 ⟨⟨E1, m1, e1, qs, a, b, rfl, hm1, rowq⟩, hv1⟩
        have rdq := rowq.rd (fun _ => rfl)
        have hcm := meetN_comm qs b a
        have hcb := meetC_comm qs b a
        generalize hmt : meetN qs a b = mt at hcm
        generalize hrc : meetC qs a b = rc at hcb
        have HM := Lib.hid hmt
        have HC := Lib.hid hrc
        have HM2 := Lib.hid hcm
        have HC2 := Lib.hid hcb
        clear hmt hrc hcm hcb
        have rcc : (rc != rc) = false := by simp
        have z0 := (Bw.refl v1).alloc (.cells #[.slice E1 m1 e1] 26)
        go_wp2_with fail
        refine (c_iMeetingNode _ _ _ qs a b HM.out HC.out _ (by omega) (rdq.keep z0)).mono ?_
        rintro e v2 ⟨rfl, hv2⟩
        have y2 := hv2.cellv (p := ⟨v1.heap.size, 0, none⟩) (v := .slice E1 m1 e1) (by go_simp)
        have z2 := z0.trans hv2
        go_wp2_with fail
        refine (c_iMeetingNode _ _ _ qs b a HM2.out HC2.out _ (by omega) (rdq.keep z2)).mono ?_
        rintro e v3 ⟨rfl, hv3⟩
        have y3 := hv3.cellv y2
        have z3 := z2.trans hv3
        go_wp2_with fail
        refine (c_sMeetingNode _ _ _ qs a b HM.out HC.out _ (by omega) (rdq.keep z3)).mono ?_
        rintro e v4 ⟨rfl, hv4⟩
        have kC := (kB.trans hv1).trans (z3.trans hv4)
        clear y2 y3 z0 z2 z3 rcc rdq rowq
        go_wp2_with fail
        refine (c_DrawFaceTo A n c hn _ (h.keep kC)).mono ?_
        rintro e u1 ⟨⟨F1, o1, f1, ss, a2, b2, rfl, ho1, rows⟩, hu1⟩
        have rds := rows.rd (fun _ => rfl)
        generalize hfn : faceN ss a2 b2 = fn
        generalize hfb : faceB ss a2 b2 = fb
        have HF := Lib.hid hfn
        have HB := Lib.hid hfb
        clear hfn hfb
        have rff : (fb != fb) = false := by simp
        have x0 := (Bw.refl u1).alloc (.cells #[.slice F1 o1 f1] 26)
        go_wp2_with fail
        refine (c_iFaceTo _ _ _ ss a2 b2 HF.out HB.out _ (by omega) (rds.keep x0)).mono ?_
        rintro e u2 ⟨rfl, hu2⟩
        have t2 := hu2.cellv (p := ⟨u1.heap.size, 0, none⟩) (v := .slice F1 o1 f1) (by go_simp)
        go_wp2_with fail
        refine (c_sFaceTo _ _ _ ss a2 b2 HF.out HB.out _ (by omega) (rds.keep (x0.trans hu2))).mono ?_
        rintro e u3 ⟨rfl, hu3⟩
        have kD := (kC.trans hu1).trans ((x0.trans hu2).trans hu3)
        have kBD := (hv1.trans (((Bw.refl v1).alloc (.cells #[.slice E1 m1 e1] 26)).trans ((hv2.trans hv3).trans hv4))).trans (hu1.trans ((x0.trans hu2).trans hu3))
        have d9 := kBD.cellv dB
        have rd9 := rdB.keep kBD
        clear t2 x0 rff rds rows
        go_wp2_with fail
        have hrcc := Lib.hid (fun W hn h => c_iChildrenOf A1 k1 d1 ps x W hn h)
        have hscc := Lib.hid (fun W hn h => c_sChildrenOf A1 k1 d1 ps x W hn h)
        have hcl := childR_len ps x
        generalize childR ps x = CL at *
        rw [HN.out] at hrcc hscc
        have rbb : (rb == rb) = true := by simp
        refine (hrcc.out _ (by omega) rd9).mono ?_
        rintro e u4 ⟨⟨C4, c4, rfl, row4⟩, hu4⟩
        have d10 := hu4.cellv d9
        go_wp2_with fail
        refine (hscc.out _ (by omega) (rd9.keep hu4)).mono ?_
        rintro e u5 ⟨⟨C5, c5, rfl, row5⟩, hu5⟩
        go_wp2_with (go_at_call 8; refine (c_vInts _ _ _ _ _ CL _ (by omega) ((row4.rd (fun _ => rfl)).keep hu5) (row5.rd (fun _ => rfl))).mono ?_; rintro e u6 ⟨rfl, hu6⟩)
        go_ret
        exact ⟨rfl, ((kD.trans hu4).trans hu5).trans hu6⟩
end Go.Proofs.Ythciecmofgoebaa
