
/- The law FnTrees: the walk. -/
import Derived.Test.YthciecmofgoebaaGreatDoorM9
import Derived.Test.YthciecmofgoebaaGreatDoorM10
import Derived.Test.YthciecmofgoebaaGreatDoorTH
namespace Go.Proofs.YthciecmofgoebaaGreatDoor
open Go.RowKit Go.Shelf
theorem digits_no {u : Nat} {b : UInt8} (hb : b.toNat < 48 ∨ 57 < b.toNat) : b ∉ Lib.decDigits u := fun h => by
  obtain ⟨j, hj⟩ := List.getElem?_of_mem h
  obtain ⟨d, hd⟩ := Lib.digit_of_decFrom _ _ _ (decFrom_digits u) j b hj
  have := Lib.digitVal_eq hd
  omega
theorem splL_app {b : UInt8} {x z : List UInt8} (hx : b ∉ x) : splL b (x ++ b :: z) = x :: splL b z := by
  have h := splL_hit (b := b) (l := x ++ b :: z) (k := x.length) (fun j hj e => by
    rw [List.getElem?_append_left hj] at e
    exact hx (List.mem_of_getElem? e)) (by simp)
  rw [h]
  simp
theorem splL_of_join {b : UInt8} : ∀ (x : List UInt8) (r : List (List UInt8)), (∀ y ∈ x :: r, b ∉ y) → splL b (Lib.join (x :: r) [b]) = x :: r
  | x, [], h => by
    rw [Lib.join_one]
    exact splL_none (fun j e => h x (by simp) (List.mem_of_getElem? e))
  | x, y :: r, h => by
    have e : Lib.join (x :: y :: r) [b] = x ++ b :: Lib.join (y :: r) [b] := by
      rw [Lib.join_cons, Lib.join_cons]; simp [Lib.joinTail]
    rw [e, splL_app (h x (by simp)), splL_of_join y r (fun z hz => h z (List.mem_cons_of_mem _ hz))]
/-- A good tree is read back from its text. -/
theorem pt_nodes {ps : List Int} (hg : goodP ps = true) : ptB (nodesT ps) = true ∧ ptP (nodesT ps) = ps := by
  have ⟨h2, h8⟩ := (goodP_iff.1 hg).1
  have h0 : intAt ps 0 = -1 := by
    have := (goodP_iff.1 hg).2 0 (by omega)
    simpa [stepP] using this
  have hv : ∀ y ∈ ps.drop 1, 0 ≤ y ∧ y ≤ 7 := by
    intro y hy
    obtain ⟨j, hj, rfl⟩ := List.getElem_of_mem hy
    simp only [List.length_drop] at hj
    have := goodP_at hg (k := j + 1) (by omega) (by omega)
    rw [intAt_lt (by omega)] at this
    rw [List.getElem_drop]
    simpa [Nat.add_comm] using this
  have hps : ps = -1 :: ps.drop 1 := by
    cases ps with
    | nil => simp at h2
    | cons x r => simp [intAt] at h0; simp [h0]
  have hne : ps.drop 1 ≠ [] := fun e => by have := congrArg List.length e; simp at this; omega
  have hs : splB 32 (nodesT ps) = (ps.drop 1).map fun x => numT x.toNat := by
    unfold nodesT
    cases hd : ps.drop 1 with
    | nil => exact absurd hd hne
    | cons x r =>
      have e : (joinT (x :: r) ⟨#[32]⟩).data.toList = Lib.join (((x :: r).map fun x => numT x.toNat).map (·.data.toList)) [32] := by
        simp [joinT, numW]
      rw [splB, e, List.map_cons, List.map_cons, splL_of_join]
      · simp only [List.map_cons, List.map_map]
        rw [mkB_data]
        congr 1 <;> (try (apply List.map_congr_left; intro y _; exact mkB_data _))
      · intro y hy
        rcases List.mem_cons.1 hy with rfl | hy
        · simpa [numT] using digits_no (u := x.toNat) (b := 32) (by decide)
        · simp only [List.mem_map] at hy
          obtain ⟨_, ⟨z, _, rfl⟩, rfl⟩ := hy
          simpa [numT] using digits_no (u := z.toNat) (b := 32) (by decide)
  have hrd : ∀ y ∈ ps.drop 1, rdB (numT y.toNat) = true ∧ rdV (numT y.toNat) = y := by
    intro y hy
    have hy2 := hv y hy
    have := rd_yes (s := numT y.toNat) (v := (y.toNat : Int)) ⟨by omega, by omega, numZ_nat _⟩
    exact ⟨this.1, by rw [this.2]; omega⟩
  have hm : (splB 32 (nodesT ps)).map rdV = ps.drop 1 := by
    rw [hs, List.map_map]
    conv => rhs; rw [← List.map_id (ps.drop 1)]
    apply List.map_congr_left
    intro y hy
    exact (hrd y hy).2
  have hb : ptB (nodesT ps) = true := by
    rw [ptB, hm, ← hps, hg, Bool.and_true, hs, List.all_map, List.all_eq_true]
    intro y hy
    exact (hrd y hy).1
  exact ⟨hb, by rw [ptP_yes hb, hm, ← hps]⟩
theorem pt_back {s : ByteArray} (h : ptB s = true) : goodP (ptP s) = true ∧ ttxT (ptP s) = s := by
  have h1 := h
  rw [ptB, Bool.and_eq_true] at h1
  have hg : goodP (ptP s) = true := by rw [ptP_yes h]; exact h1.2
  refine ⟨hg, ?_⟩
  rw [ttxT, if_pos hg, ptP_yes h]
  exact (pt_facts h1.1 h1.2).1
theorem ttx_size (ps : List Int) : (ttxT ps).size ≤ 100 := by
  unfold ttxT
  split
  · rename_i h; exact (nodesT_size h).2
  · exact Nat.zero_le _
theorem c_vBig (A : Option Addr) (n c : Nat) {r : Bool} (hr : decide (65536 < n) = r) (hm : n ≤ 9223372036854775807) (w : World) :
    Calls Tryz.prog 4 #[.slice A n c] w fun e w' => e = .returned (.bool r) ∧ w = w' := by
  cases r
  · have h1 : ¬ (65536 : Int) < n := by simp at hr; omega
    go_enter Tryz.func4, Tryz.ntmps4
    go_wp2
    go_ret
    exact ⟨rfl, rfl⟩
  · have h1 : (65536 : Int) < n := by simp at hr; omega
    go_enter Tryz.func4, Tryz.ntmps4
    go_wp2
    go_ret
    exact ⟨rfl, rfl⟩
set_option maxRecDepth 100000 in
set_option maxHeartbeats 4000000 in
theorem w_Trees (A : Option Addr) (n c : Nat) (w : World) (hp : PEnv w) (hm : n ≤ 9223372036854775807) (h : Code8 w A n) :
    Calls Tryz.prog 3 #[.slice A n c] w fun e w' => e = .returned (.bool true) ∧ Bw w w' := by
  by_cases hbn : 65536 < n
  · have hbig : decide (65536 < n) = true := by simpa using hbn
    go_enter Tryz.func3, Tryz.ntmps3
    go_wp2_with (go_at_call 4; refine (c_vBig _ _ _ hbig hm _).mono ?_; rintro e w1 ⟨rfl, rfl⟩)
    go_ret
    exact ⟨rfl, Bw.refl _⟩
  · have hbig : decide (65536 < n) = false := by simpa using hbn
    have hn : n ≤ 1000000 := by omega
    go_enter Tryz.func3, Tryz.ntmps3
    go_wp2_with (go_at_call 4; refine (c_vBig _ _ _ hbig hm _).mono ?_; rintro e w1 ⟨rfl, rfl⟩)
    clear hbig hbn
    refine (c_DrawTreeText A n c hn _ h).mono ?_
    rintro e w1 ⟨⟨A1, k1, d1, ts, rfl, hk1, row1⟩, hb1⟩
    have rd1 := row1.rd (fun _ => rfl)
    have hcp1 := row1.caps.1
    have hsz := ttx_size ts
    have HT := Lib.hid (fun W ht h => c_iTreeText A1 k1 d1 ts W hcp1 ht (by omega) h)
    have HS := Lib.hid (fun W h => c_sTreeText A1 k1 d1 ts W (by omega) h)
    have HV := Lib.hid (fun W h => c_IsValidTree A1 k1 d1 ts (r := goodP ts) rfl W (by omega) h)
    have j0 := (Bw.refl w1).alloc (.cells #[.slice A1 k1 d1] 26)
    cases hg : goodP ts
    · have HP := Lib.hid (fun W hp => c_iParseTree (ttxT ts) (by omega) W hp)
      have hul := ptP_len (ttxT ts)
      rw [hg] at HT HS HV
      generalize ptP (ttxT ts) = BP at *
      generalize ptB (ttxT ts) = bb at *
      generalize ttxT ts = s at *
      clear hg
      go_wp2_with fail
      refine (HT.out _ (hp.tab.keep (hb1.trans j0)) (rd1.keep j0)).mono ?_
      rintro e w2 ⟨rfl, hb2⟩
      have d2 := hb2.cellv (p := ⟨w1.heap.size, 0, none⟩) (v := .slice A1 k1 d1) (by go_simp)
      have j2 := j0.trans hb2
      go_wp2_with fail
      refine (HP.out _ (hp.keep (hb1.trans j2))).mono ?_
      rintro e w3 ⟨⟨A3, c3, rfl, row3⟩, hb3⟩
      have d3 := hb3.cellv d2
      have z3 := (Bw.refl w3).alloc (.cells #[.slice A3 BP.length c3] 26)
      have j3 := (j2.trans hb3).trans z3
      have d3b := z3.cellv d3
      go_wp2_with fail
      refine (HS.out _ (rd1.keep j3)).mono ?_
      rintro e w4 ⟨rfl, hb4⟩
      have d4 := hb4.cellv d3b
      have j4 := j3.trans hb4
      go_wp2_with (go_at_call 9; refine (HV.out _ (rd1.keep j4)).mono ?_; rintro e w5 ⟨rfl, hb5⟩)
      have kB := hb1.trans (j4.trans hb5)
      clear HT HS HV HP rd1 row1 row3 d2 d3 d3b d4 j0 j2 j3 j4 z3
      refine (c_DrawParseTree A n c hn _ (h.keep kB)).mono ?_
      rintro e v1 ⟨⟨u, rfl, hu⟩, hv1⟩
      have kv := (kB).trans hv1
      have HUI := Lib.hid (fun W hp => c_iParseTree u (by omega) W hp)
      have HUS := Lib.hid (fun W => c_sParseTree u (by omega) W)
      have HUT := Lib.hid (fun A c W hcap ht hm h => c_iTreeText A (ptP u).length c (ptP u) W hcap ht hm h)
      have hul := ptP_len u
      cases hub : ptB u
      · rw [hub] at HUI HUS
        generalize ptP u = UP at *
        generalize goodP UP = ug at *
        generalize ttxT UP = ut at *
        clear hub
        go_wp2_with fail
        refine (HUI.out _ (hp.keep kv)).mono ?_
        rintro e v2 ⟨⟨V2, c2, rfl, row2⟩, hv2⟩
        have z2 := (Bw.refl v2).alloc (.cells #[.slice V2 UP.length c2] 26)
        have rd2 := (row2.rd (fun _ => rfl)).keep z2
        have hcp := row2.caps.1
        go_wp2_with fail
        refine (HUT.out _ _ _ hcp (hp.tab.keep ((kv.trans hv2).trans z2)) (by omega) rd2).mono ?_
        rintro e v3 ⟨rfl, hv3⟩
        have d3 := hv3.cellv (p := ⟨v2.heap.size, 0, none⟩) (v := .slice V2 UP.length c2) (by go_simp)
        go_wp2_with fail
        refine (HUS.out _).mono ?_
        rintro e v4 ⟨⟨V4, c4, rfl, row4⟩, hv4⟩
        have d4 := hv4.cellv d3
        have z4 := (Bw.refl v4).alloc (.cells #[.slice V4 UP.length c4] 26)
        have d4b := z4.cellv d4
        go_wp2_with (go_at_call 10; refine (c_vInts _ _ _ _ _ UP _ (by omega) (((rd2.keep hv3).keep hv4).keep z4) ((row4.rd (fun _ => rfl)).keep z4)).mono ?_; rintro e v5 ⟨rfl, hv5⟩)
        have kC := ((((kv.trans hv2).trans z2).trans hv3).trans hv4).trans (z4.trans hv5)
        clear HUI HUS HUT rd2 row2 row4 d3 d4 d4b z2 z4 hcp
        refine (c_DrawAddLeaf A n c hn _ (h.keep kC)).mono ?_
        rintro e q1 ⟨⟨Q1, m1, o1, qs, x, rfl, hm1, rowq⟩, hq1⟩
        have rdq := rowq.rd (fun _ => rfl)
        have hql := rdq.ilen
        have HQI := Lib.hid (fun W hn h => c_iAddLeaf Q1 m1 o1 qs x W hn h)
        have HQS := Lib.hid (fun W hn h => c_sAddLeaf Q1 m1 o1 qs x W hn h)
        have hqz := addR_len (ps := qs) (x := x) (by omega)
        cases hac : addC qs x
        · have haz := add_no hac
          rw [hac] at HQI HQS
          rw [haz.1, haz.2] at HQI HQS
          simp only [List.length_nil] at HQI HQS
          clear haz hac hqz
          have t0 := (Bw.refl q1).alloc (.cells #[.slice Q1 m1 o1] 26)
          go_wp2_with fail
          refine (HQI.out _ (by omega) (rdq.keep t0)).mono ?_
          rintro e q2 ⟨⟨Q2, o2, rfl, rowq2⟩, hq2⟩
          have c2 := hq2.cellv (p := ⟨q1.heap.size, 0, none⟩) (v := .slice Q1 m1 o1) (by go_simp)
          have t2 := (t0.trans hq2).alloc (.cells #[.slice Q2 0 o2] 26)
          have c2b := ((Bw.refl q2).alloc (.cells #[.slice Q2 0 o2] 26)).cellv c2
          go_wp2_with fail
          refine (HQS.out _ (by omega) (rdq.keep t2)).mono ?_
          rintro e q3 ⟨⟨Q3, o3, rfl, rowq3⟩, hq3⟩
          have b3 := hq3.cellv (p := ⟨q2.heap.size, 0, none⟩) (v := .slice Q2 0 o2) (by go_simp)
          have t3 := t2.trans hq3
          have rq2 := ((rowq2.rd (fun _ => rfl)).keep ((Bw.refl _).alloc (.cells #[.slice Q2 0 o2] 26))).keep hq3
          have z3 := (Bw.refl q3).alloc (.cells #[.slice Q3 0 o3] 26)
          have b3z := z3.cellv b3
          go_wp2_with (go_at_call 10; refine (c_vInts _ _ _ _ _ ([] : List Int) _ (by simp) (rq2.keep z3) ((rowq3.rd (fun _ => rfl)).keep z3)).mono ?_; rintro e q4 ⟨rfl, hq4⟩)
          have kD := ((kC).trans hq1).trans ((t3.trans z3).trans hq4)
          clear HQI HQS rq2 rowq2 rowq3 rdq rowq b3 b3z c2 c2b t0 t2 t3 z3
          refine (c_DrawLeavesOf A n c hn _ (h.keep kD)).mono ?_
          rintro e p1 ⟨⟨P1, i1, j1, zs, rfl, hi1, rowz⟩, hp1⟩
          have rdz := rowz.rd (fun _ => rfl)
          have HZI := Lib.hid (fun W hn h => c_iLeavesOf P1 i1 j1 zs W hn h)
          have HZS := Lib.hid (fun W hn h => c_sLeavesOf P1 i1 j1 zs W hn h)
          have hzl := leafR_len zs
          have hzi := rdz.ilen
          have hzp := leafR_pos (ps := zs)
          generalize leafR zs = ZL at *
          generalize goodP zs = zg at *
          have y0 := (Bw.refl p1).alloc (.cells #[.slice P1 i1 j1] 26)
          go_wp2_with fail
          refine (HZI.out _ (by omega) (rdz.keep y0)).mono ?_
          rintro e p2 ⟨⟨P2, j2, rfl, row2z⟩, hp2⟩
          have yc := hp2.cellv (p := ⟨p1.heap.size, 0, none⟩) (v := .slice P1 i1 j1) (by go_simp)
          go_wp2_with fail
          refine (HZS.out _ (by omega) (rdz.keep (y0.trans hp2))).mono ?_
          rintro e p3 ⟨⟨P3, j3, rfl, row3z⟩, hp3⟩
          have kp := ((kD).trans hp1).trans ((y0.trans hp2).trans hp3)
          have zgg : (zg == zg) = true := by simp
          clear HZI HZS
          cases zg
          · go_wp2_with (go_at_call 10; refine (c_vInts _ _ _ _ _ ZL _ (by omega) ((row2z.rd (fun _ => rfl)).keep hp3) (row3z.rd (fun _ => rfl))).mono ?_; rintro e p4 ⟨rfl, hp4⟩)
            go_ret
            exact ⟨rfl, kp.trans hp4⟩
          · have hzp := hzp rfl
            have hzp2 : (0 : Int) < ZL.length := by omega
            have hzp3 : decide ((0 : Int) < ZL.length) = true := by simpa using hzp2
            go_wp2_with (go_at_call 10; refine (c_vInts _ _ _ _ _ ZL _ (by omega) ((row2z.rd (fun _ => rfl)).keep hp3) (row3z.rd (fun _ => rfl))).mono ?_; rintro e p4 ⟨rfl, hp4⟩)
            go_ret
            exact ⟨rfl, kp.trans hp4⟩
        · have haz := add_yes hac
          have haf := add_facts hac
          rw [← haz.1] at haf
          rw [hac, haz.2, hql] at HQI HQS
          rw [hql] at haf
          obtain ⟨af1, af2, af3, af4, af5⟩ := haf
          have hlr := childR_len (addR qs x) x
          have hlf := leafR_len (addR qs x)
          have HCH := Lib.hid (fun A c W hn h => c_iChildrenOf A (addR qs x).length c (addR qs x) x W hn h)
          have HLV := Lib.hid (fun A c W hn h => c_iLeavesOf A (addR qs x).length c (addR qs x) W hn h)
          rw [af2] at HCH
          rw [af1] at HLV
          generalize childR (addR qs x) x = CH at *
          generalize leafR (addR qs x) = LV at *
          generalize addR qs x = AR at *
          clear haz hac af1 af2
          have t0 := (Bw.refl q1).alloc (.cells #[.slice Q1 m1 o1] 26)
          go_wp2_with fail
          refine (HQI.out _ (by omega) (rdq.keep t0)).mono ?_
          rintro e q2 ⟨⟨Q2, o2, rfl, rowq2⟩, hq2⟩
          have c2 := hq2.cellv (p := ⟨q1.heap.size, 0, none⟩) (v := .slice Q1 m1 o1) (by go_simp)
          have t2 := (t0.trans hq2).alloc (.cells #[.slice Q2 AR.length o2] 26)
          have c2b := ((Bw.refl q2).alloc (.cells #[.slice Q2 AR.length o2] 26)).cellv c2
          go_wp2_with fail
          refine (HQS.out _ (by omega) (rdq.keep t2)).mono ?_
          rintro e q3 ⟨⟨Q3, o3, rfl, rowq3⟩, hq3⟩
          have b3 := hq3.cellv (p := ⟨q2.heap.size, 0, none⟩) (v := .slice Q2 AR.length o2) (by go_simp)
          have t3 := t2.trans hq3
          have rq2 := ((rowq2.rd (fun _ => rfl)).keep ((Bw.refl _).alloc (.cells #[.slice Q2 AR.length o2] 26))).keep hq3
          have z3 := (Bw.refl q3).alloc (.cells #[.slice Q3 AR.length o3] 26)
          have b3z := z3.cellv b3
          go_wp2_with (go_at_call 10; refine (c_vInts _ _ _ _ _ AR _ (by omega) (rq2.keep z3) ((rowq3.rd (fun _ => rfl)).keep z3)).mono ?_; rintro e q4 ⟨rfl, hq4⟩; have b4 := (z3.trans hq4).cellv b3)
          have t4 := (t3.trans z3).trans hq4
          have rq4 := (rq2.keep z3).keep hq4
          refine (HCH.out _ _ _ (by omega) rq4).mono ?_
          rintro e q5 ⟨⟨Q5, o5, rfl, rowq5⟩, hq5⟩
          have b5 := hq5.cellv b4
          go_wp2_with fail
          refine (HLV.out _ _ _ (by omega) (rq4.keep hq5)).mono ?_
          rintro e q6 ⟨⟨Q6, o6, rfl, rowq6⟩, hq6⟩
          have r5 := (rowq5.rd (fun _ => rfl)).keep hq6
          have r6 := rowq6.rd (fun _ => rfl)
          go_wp2_with fail
          refine (c_vHas _ _ _ CH (m1 : Int) af3 _ (by omega) r5).mono ?_
          rintro e _ ⟨rfl, rfl⟩
          go_wp2_with fail
          refine (c_vHas _ _ _ LV (m1 : Int) af4 _ (by omega) r6).mono ?_
          rintro e _ ⟨rfl, rfl⟩
          go_wp2_with fail
          refine (c_vHas _ _ _ LV x af5 _ (by omega) r6).mono ?_
          rintro e _ ⟨rfl, rfl⟩
          go_wp2_with fail
          have kD := ((kC).trans hq1).trans ((t4.trans hq5).trans hq6)
          clear HQI HQS HCH HLV rq2 rq4 r5 r6 rowq2 rowq3 rowq5 rowq6 rdq rowq b3 b3z b4 b5 c2 c2b t0 t2 t3 t4 z3 af3 af4 af5
          refine (c_DrawLeavesOf A n c hn _ (h.keep kD)).mono ?_
          rintro e p1 ⟨⟨P1, i1, j1, zs, rfl, hi1, rowz⟩, hp1⟩
          have rdz := rowz.rd (fun _ => rfl)
          have HZI := Lib.hid (fun W hn h => c_iLeavesOf P1 i1 j1 zs W hn h)
          have HZS := Lib.hid (fun W hn h => c_sLeavesOf P1 i1 j1 zs W hn h)
          have hzl := leafR_len zs
          have hzi := rdz.ilen
          have hzp := leafR_pos (ps := zs)
          generalize leafR zs = ZL at *
          generalize goodP zs = zg at *
          have y0 := (Bw.refl p1).alloc (.cells #[.slice P1 i1 j1] 26)
          go_wp2_with fail
          refine (HZI.out _ (by omega) (rdz.keep y0)).mono ?_
          rintro e p2 ⟨⟨P2, j2, rfl, row2z⟩, hp2⟩
          have yc := hp2.cellv (p := ⟨p1.heap.size, 0, none⟩) (v := .slice P1 i1 j1) (by go_simp)
          go_wp2_with fail
          refine (HZS.out _ (by omega) (rdz.keep (y0.trans hp2))).mono ?_
          rintro e p3 ⟨⟨P3, j3, rfl, row3z⟩, hp3⟩
          have kp := ((kD).trans hp1).trans ((y0.trans hp2).trans hp3)
          have zgg : (zg == zg) = true := by simp
          clear HZI HZS
          cases zg
          · go_wp2_with (go_at_call 10; refine (c_vInts _ _ _ _ _ ZL _ (by omega) ((row2z.rd (fun _ => rfl)).keep hp3) (row3z.rd (fun _ => rfl))).mono ?_; rintro e p4 ⟨rfl, hp4⟩)
            go_ret
            exact ⟨rfl, kp.trans hp4⟩
          · have hzp := hzp rfl
            have hzp2 : (0 : Int) < ZL.length := by omega
            have hzp3 : decide ((0 : Int) < ZL.length) = true := by simpa using hzp2
            go_wp2_with (go_at_call 10; refine (c_vInts _ _ _ _ _ ZL _ (by omega) ((row2z.rd (fun _ => rfl)).keep hp3) (row3z.rd (fun _ => rfl))).mono ?_; rintro e p4 ⟨rfl, hp4⟩)
            go_ret
            exact ⟨rfl, kp.trans hp4⟩
      · have hpb := pt_back hub
        rw [hub] at HUI HUS
        rw [hpb.1, hpb.2] at HUT
        generalize ptP u = UP at *
        clear hub hpb
        go_wp2_with fail
        refine (HUI.out _ (hp.keep kv)).mono ?_
        rintro e v2 ⟨⟨V2, c2, rfl, row2⟩, hv2⟩
        have z2 := (Bw.refl v2).alloc (.cells #[.slice V2 UP.length c2] 26)
        have rd2 := (row2.rd (fun _ => rfl)).keep z2
        have hcp := row2.caps.1
        go_wp2_with fail
        refine (HUT.out _ _ _ hcp (hp.tab.keep ((kv.trans hv2).trans z2)) (by omega) rd2).mono ?_
        rintro e v3 ⟨rfl, hv3⟩
        have d3 := hv3.cellv (p := ⟨v2.heap.size, 0, none⟩) (v := .slice V2 UP.length c2) (by go_simp)
        go_wp2_with fail
        refine (HUS.out _).mono ?_
        rintro e v4 ⟨⟨V4, c4, rfl, row4⟩, hv4⟩
        have d4 := hv4.cellv d3
        have z4 := (Bw.refl v4).alloc (.cells #[.slice V4 UP.length c4] 26)
        have d4b := z4.cellv d4
        go_wp2_with (go_at_call 10; refine (c_vInts _ _ _ _ _ UP _ (by omega) (((rd2.keep hv3).keep hv4).keep z4) ((row4.rd (fun _ => rfl)).keep z4)).mono ?_; rintro e v5 ⟨rfl, hv5⟩)
        have kC := ((((kv.trans hv2).trans z2).trans hv3).trans hv4).trans (z4.trans hv5)
        clear HUI HUS HUT rd2 row2 row4 d3 d4 d4b z2 z4 hcp
        refine (c_DrawAddLeaf A n c hn _ (h.keep kC)).mono ?_
        rintro e q1 ⟨⟨Q1, m1, o1, qs, x, rfl, hm1, rowq⟩, hq1⟩
        have rdq := rowq.rd (fun _ => rfl)
        have hql := rdq.ilen
        have HQI := Lib.hid (fun W hn h => c_iAddLeaf Q1 m1 o1 qs x W hn h)
        have HQS := Lib.hid (fun W hn h => c_sAddLeaf Q1 m1 o1 qs x W hn h)
        have hqz := addR_len (ps := qs) (x := x) (by omega)
        cases hac : addC qs x
        · have haz := add_no hac
          rw [hac] at HQI HQS
          rw [haz.1, haz.2] at HQI HQS
          simp only [List.length_nil] at HQI HQS
          clear haz hac hqz
          have t0 := (Bw.refl q1).alloc (.cells #[.slice Q1 m1 o1] 26)
          go_wp2_with fail
          refine (HQI.out _ (by omega) (rdq.keep t0)).mono ?_
          rintro e q2 ⟨⟨Q2, o2, rfl, rowq2⟩, hq2⟩
          have c2 := hq2.cellv (p := ⟨q1.heap.size, 0, none⟩) (v := .slice Q1 m1 o1) (by go_simp)
          have t2 := (t0.trans hq2).alloc (.cells #[.slice Q2 0 o2] 26)
          have c2b := ((Bw.refl q2).alloc (.cells #[.slice Q2 0 o2] 26)).cellv c2
          go_wp2_with fail
          refine (HQS.out _ (by omega) (rdq.keep t2)).mono ?_
          rintro e q3 ⟨⟨Q3, o3, rfl, rowq3⟩, hq3⟩
          have b3 := hq3.cellv (p := ⟨q2.heap.size, 0, none⟩) (v := .slice Q2 0 o2) (by go_simp)
          have t3 := t2.trans hq3
          have rq2 := ((rowq2.rd (fun _ => rfl)).keep ((Bw.refl _).alloc (.cells #[.slice Q2 0 o2] 26))).keep hq3
          have z3 := (Bw.refl q3).alloc (.cells #[.slice Q3 0 o3] 26)
          have b3z := z3.cellv b3
          go_wp2_with (go_at_call 10; refine (c_vInts _ _ _ _ _ ([] : List Int) _ (by simp) (rq2.keep z3) ((rowq3.rd (fun _ => rfl)).keep z3)).mono ?_; rintro e q4 ⟨rfl, hq4⟩)
          have kD := ((kC).trans hq1).trans ((t3.trans z3).trans hq4)
          clear HQI HQS rq2 rowq2 rowq3 rdq rowq b3 b3z c2 c2b t0 t2 t3 z3
          refine (c_DrawLeavesOf A n c hn _ (h.keep kD)).mono ?_
          rintro e p1 ⟨⟨P1, i1, j1, zs, rfl, hi1, rowz⟩, hp1⟩
          have rdz := rowz.rd (fun _ => rfl)
          have HZI := Lib.hid (fun W hn h => c_iLeavesOf P1 i1 j1 zs W hn h)
          have HZS := Lib.hid (fun W hn h => c_sLeavesOf P1 i1 j1 zs W hn h)
          have hzl := leafR_len zs
          have hzi := rdz.ilen
          have hzp := leafR_pos (ps := zs)
          generalize leafR zs = ZL at *
          generalize goodP zs = zg at *
          have y0 := (Bw.refl p1).alloc (.cells #[.slice P1 i1 j1] 26)
          go_wp2_with fail
          refine (HZI.out _ (by omega) (rdz.keep y0)).mono ?_
          rintro e p2 ⟨⟨P2, j2, rfl, row2z⟩, hp2⟩
          have yc := hp2.cellv (p := ⟨p1.heap.size, 0, none⟩) (v := .slice P1 i1 j1) (by go_simp)
          go_wp2_with fail
          refine (HZS.out _ (by omega) (rdz.keep (y0.trans hp2))).mono ?_
          rintro e p3 ⟨⟨P3, j3, rfl, row3z⟩, hp3⟩
          have kp := ((kD).trans hp1).trans ((y0.trans hp2).trans hp3)
          have zgg : (zg == zg) = true := by simp
          clear HZI HZS
          cases zg
          · go_wp2_with (go_at_call 10; refine (c_vInts _ _ _ _ _ ZL _ (by omega) ((row2z.rd (fun _ => rfl)).keep hp3) (row3z.rd (fun _ => rfl))).mono ?_; rintro e p4 ⟨rfl, hp4⟩)
            go_ret
            exact ⟨rfl, kp.trans hp4⟩
          · have hzp := hzp rfl
            have hzp2 : (0 : Int) < ZL.length := by omega
            have hzp3 : decide ((0 : Int) < ZL.length) = true := by simpa using hzp2
            go_wp2_with (go_at_call 10; refine (c_vInts _ _ _ _ _ ZL _ (by omega) ((row2z.rd (fun _ => rfl)).keep hp3) (row3z.rd (fun _ => rfl))).mono ?_; rintro e p4 ⟨rfl, hp4⟩)
            go_ret
            exact ⟨rfl, kp.trans hp4⟩
        · have haz := add_yes hac
          have haf := add_facts hac
          rw [← haz.1] at haf
          rw [hac, haz.2, hql] at HQI HQS
          rw [hql] at haf
          obtain ⟨af1, af2, af3, af4, af5⟩ := haf
          have hlr := childR_len (addR qs x) x
          have hlf := leafR_len (addR qs x)
          have HCH := Lib.hid (fun A c W hn h => c_iChildrenOf A (addR qs x).length c (addR qs x) x W hn h)
          have HLV := Lib.hid (fun A c W hn h => c_iLeavesOf A (addR qs x).length c (addR qs x) W hn h)
          rw [af2] at HCH
          rw [af1] at HLV
          generalize childR (addR qs x) x = CH at *
          generalize leafR (addR qs x) = LV at *
          generalize addR qs x = AR at *
          clear haz hac af1 af2
          have t0 := (Bw.refl q1).alloc (.cells #[.slice Q1 m1 o1] 26)
          go_wp2_with fail
          refine (HQI.out _ (by omega) (rdq.keep t0)).mono ?_
          rintro e q2 ⟨⟨Q2, o2, rfl, rowq2⟩, hq2⟩
          have c2 := hq2.cellv (p := ⟨q1.heap.size, 0, none⟩) (v := .slice Q1 m1 o1) (by go_simp)
          have t2 := (t0.trans hq2).alloc (.cells #[.slice Q2 AR.length o2] 26)
          have c2b := ((Bw.refl q2).alloc (.cells #[.slice Q2 AR.length o2] 26)).cellv c2
          go_wp2_with fail
          refine (HQS.out _ (by omega) (rdq.keep t2)).mono ?_
          rintro e q3 ⟨⟨Q3, o3, rfl, rowq3⟩, hq3⟩
          have b3 := hq3.cellv (p := ⟨q2.heap.size, 0, none⟩) (v := .slice Q2 AR.length o2) (by go_simp)
          have t3 := t2.trans hq3
          have rq2 := ((rowq2.rd (fun _ => rfl)).keep ((Bw.refl _).alloc (.cells #[.slice Q2 AR.length o2] 26))).keep hq3
          have z3 := (Bw.refl q3).alloc (.cells #[.slice Q3 AR.length o3] 26)
          have b3z := z3.cellv b3
          go_wp2_with (go_at_call 10; refine (c_vInts _ _ _ _ _ AR _ (by omega) (rq2.keep z3) ((rowq3.rd (fun _ => rfl)).keep z3)).mono ?_; rintro e q4 ⟨rfl, hq4⟩; have b4 := (z3.trans hq4).cellv b3)
          have t4 := (t3.trans z3).trans hq4
          have rq4 := (rq2.keep z3).keep hq4
          refine (HCH.out _ _ _ (by omega) rq4).mono ?_
          rintro e q5 ⟨⟨Q5, o5, rfl, rowq5⟩, hq5⟩
          have b5 := hq5.cellv b4
          go_wp2_with fail
          refine (HLV.out _ _ _ (by omega) (rq4.keep hq5)).mono ?_
          rintro e q6 ⟨⟨Q6, o6, rfl, rowq6⟩, hq6⟩
          have r5 := (rowq5.rd (fun _ => rfl)).keep hq6
          have r6 := rowq6.rd (fun _ => rfl)
          go_wp2_with fail
          refine (c_vHas _ _ _ CH (m1 : Int) af3 _ (by omega) r5).mono ?_
          rintro e _ ⟨rfl, rfl⟩
          go_wp2_with fail
          refine (c_vHas _ _ _ LV (m1 : Int) af4 _ (by omega) r6).mono ?_
          rintro e _ ⟨rfl, rfl⟩
          go_wp2_with fail
          refine (c_vHas _ _ _ LV x af5 _ (by omega) r6).mono ?_
          rintro e _ ⟨rfl, rfl⟩
          go_wp2_with fail
          have kD := ((kC).trans hq1).trans ((t4.trans hq5).trans hq6)
          clear HQI HQS HCH HLV rq2 rq4 r5 r6 rowq2 rowq3 rowq5 rowq6 rdq rowq b3 b3z b4 b5 c2 c2b t0 t2 t3 t4 z3 af3 af4 af5
          refine (c_DrawLeavesOf A n c hn _ (h.keep kD)).mono ?_
          rintro e p1 ⟨⟨P1, i1, j1, zs, rfl, hi1, rowz⟩, hp1⟩
          have rdz := rowz.rd (fun _ => rfl)
          have HZI := Lib.hid (fun W hn h => c_iLeavesOf P1 i1 j1 zs W hn h)
          have HZS := Lib.hid (fun W hn h => c_sLeavesOf P1 i1 j1 zs W hn h)
          have hzl := leafR_len zs
          have hzi := rdz.ilen
          have hzp := leafR_pos (ps := zs)
          generalize leafR zs = ZL at *
          generalize goodP zs = zg at *
          have y0 := (Bw.refl p1).alloc (.cells #[.slice P1 i1 j1] 26)
          go_wp2_with fail
          refine (HZI.out _ (by omega) (rdz.keep y0)).mono ?_
          rintro e p2 ⟨⟨P2, j2, rfl, row2z⟩, hp2⟩
          have yc := hp2.cellv (p := ⟨p1.heap.size, 0, none⟩) (v := .slice P1 i1 j1) (by go_simp)
          go_wp2_with fail
          refine (HZS.out _ (by omega) (rdz.keep (y0.trans hp2))).mono ?_
          rintro e p3 ⟨⟨P3, j3, rfl, row3z⟩, hp3⟩
          have kp := ((kD).trans hp1).trans ((y0.trans hp2).trans hp3)
          have zgg : (zg == zg) = true := by simp
          clear HZI HZS
          cases zg
          · go_wp2_with (go_at_call 10; refine (c_vInts _ _ _ _ _ ZL _ (by omega) ((row2z.rd (fun _ => rfl)).keep hp3) (row3z.rd (fun _ => rfl))).mono ?_; rintro e p4 ⟨rfl, hp4⟩)
            go_ret
            exact ⟨rfl, kp.trans hp4⟩
          · have hzp := hzp rfl
            have hzp2 : (0 : Int) < ZL.length := by omega
            have hzp3 : decide ((0 : Int) < ZL.length) = true := by simpa using hzp2
            go_wp2_with (go_at_call 10; refine (c_vInts _ _ _ _ _ ZL _ (by omega) ((row2z.rd (fun _ => rfl)).keep hp3) (row3z.rd (fun _ => rfl))).mono ?_; rintro e p4 ⟨rfl, hp4⟩)
            go_ret
            exact ⟨rfl, kp.trans hp4⟩
    · have hpn := pt_nodes hg
      have hst : ttxT ts = nodesT ts := by rw [ttxT, if_pos hg]
      have HP := Lib.hid (fun W hp => c_iParseTree (ttxT ts) (by omega) W hp)
      rw [hst] at HP HT HS hsz
      have htl := rd1.ilen
      rw [hpn.1, hpn.2, htl] at HP
      clear htl
      rw [hg] at HT HS HV
      generalize nodesT ts = s at *
      clear hg hpn hst
      go_wp2_with fail
      refine (HT.out _ (hp.tab.keep (hb1.trans j0)) (rd1.keep j0)).mono ?_
      rintro e w2 ⟨rfl, hb2⟩
      have d2 := hb2.cellv (p := ⟨w1.heap.size, 0, none⟩) (v := .slice A1 k1 d1) (by go_simp)
      have j2 := j0.trans hb2
      go_wp2_with fail
      refine (HP.out _ (hp.keep (hb1.trans j2))).mono ?_
      rintro e w3 ⟨⟨A3, c3, rfl, row3⟩, hb3⟩
      have d3 := hb3.cellv d2
      have z3 := (Bw.refl w3).alloc (.cells #[.slice A3 k1 c3] 26)
      have j3 := (j2.trans hb3).trans z3
      have d3b := z3.cellv d3
      go_wp2_with fail
      refine (HS.out _ (rd1.keep j3)).mono ?_
      rintro e w4 ⟨rfl, hb4⟩
      have d4 := hb4.cellv d3b
      have e4 := hb4.cellv (p := ⟨w3.heap.size, 0, none⟩) (v := .slice A3 k1 c3) (by go_simp)
      have j4 := j3.trans hb4
      go_wp2_with (first | (go_at_call 9; refine (HV.out _ (rd1.keep j4)).mono ?_; rintro e w5 ⟨rfl, hb5⟩; have d5 := hb5.cellv d4; have e5 := hb5.cellv e4) | (go_at_call 10; refine (c_vInts _ _ _ _ _ ts _ (by omega) ((((row3.rd (fun _ => rfl)).keep z3).keep hb4).keep hb5) (rd1.keep (j4.trans hb5))).mono ?_; rintro e w6 ⟨rfl, hb6⟩))
      have kB := hb1.trans ((j4.trans hb5).trans hb6)
      clear HT HS HV HP rd1 row1 row3 d2 d3 d3b d4 j0 j2 j3 j4 z3
      refine (c_DrawParseTree A n c hn _ (h.keep kB)).mono ?_
      rintro e v1 ⟨⟨u, rfl, hu⟩, hv1⟩
      have kv := (kB).trans hv1
      have HUI := Lib.hid (fun W hp => c_iParseTree u (by omega) W hp)
      have HUS := Lib.hid (fun W => c_sParseTree u (by omega) W)
      have HUT := Lib.hid (fun A c W hcap ht hm h => c_iTreeText A (ptP u).length c (ptP u) W hcap ht hm h)
      have hul := ptP_len u
      cases hub : ptB u
      · rw [hub] at HUI HUS
        generalize ptP u = UP at *
        generalize goodP UP = ug at *
        generalize ttxT UP = ut at *
        clear hub
        go_wp2_with fail
        refine (HUI.out _ (hp.keep kv)).mono ?_
        rintro e v2 ⟨⟨V2, c2, rfl, row2⟩, hv2⟩
        have z2 := (Bw.refl v2).alloc (.cells #[.slice V2 UP.length c2] 26)
        have rd2 := (row2.rd (fun _ => rfl)).keep z2
        have hcp := row2.caps.1
        go_wp2_with fail
        refine (HUT.out _ _ _ hcp (hp.tab.keep ((kv.trans hv2).trans z2)) (by omega) rd2).mono ?_
        rintro e v3 ⟨rfl, hv3⟩
        have d3 := hv3.cellv (p := ⟨v2.heap.size, 0, none⟩) (v := .slice V2 UP.length c2) (by go_simp)
        go_wp2_with fail
        refine (HUS.out _).mono ?_
        rintro e v4 ⟨⟨V4, c4, rfl, row4⟩, hv4⟩
        have d4 := hv4.cellv d3
        have z4 := (Bw.refl v4).alloc (.cells #[.slice V4 UP.length c4] 26)
        have d4b := z4.cellv d4
        go_wp2_with (go_at_call 10; refine (c_vInts _ _ _ _ _ UP _ (by omega) (((rd2.keep hv3).keep hv4).keep z4) ((row4.rd (fun _ => rfl)).keep z4)).mono ?_; rintro e v5 ⟨rfl, hv5⟩)
        have kC := ((((kv.trans hv2).trans z2).trans hv3).trans hv4).trans (z4.trans hv5)
        clear HUI HUS HUT rd2 row2 row4 d3 d4 d4b z2 z4 hcp
        refine (c_DrawAddLeaf A n c hn _ (h.keep kC)).mono ?_
        rintro e q1 ⟨⟨Q1, m1, o1, qs, x, rfl, hm1, rowq⟩, hq1⟩
        have rdq := rowq.rd (fun _ => rfl)
        have hql := rdq.ilen
        have HQI := Lib.hid (fun W hn h => c_iAddLeaf Q1 m1 o1 qs x W hn h)
        have HQS := Lib.hid (fun W hn h => c_sAddLeaf Q1 m1 o1 qs x W hn h)
        have hqz := addR_len (ps := qs) (x := x) (by omega)
        cases hac : addC qs x
        · have haz := add_no hac
          rw [hac] at HQI HQS
          rw [haz.1, haz.2] at HQI HQS
          simp only [List.length_nil] at HQI HQS
          clear haz hac hqz
          have t0 := (Bw.refl q1).alloc (.cells #[.slice Q1 m1 o1] 26)
          go_wp2_with fail
          refine (HQI.out _ (by omega) (rdq.keep t0)).mono ?_
          rintro e q2 ⟨⟨Q2, o2, rfl, rowq2⟩, hq2⟩
          have c2 := hq2.cellv (p := ⟨q1.heap.size, 0, none⟩) (v := .slice Q1 m1 o1) (by go_simp)
          have t2 := (t0.trans hq2).alloc (.cells #[.slice Q2 0 o2] 26)
          have c2b := ((Bw.refl q2).alloc (.cells #[.slice Q2 0 o2] 26)).cellv c2
          go_wp2_with fail
          refine (HQS.out _ (by omega) (rdq.keep t2)).mono ?_
          rintro e q3 ⟨⟨Q3, o3, rfl, rowq3⟩, hq3⟩
          have b3 := hq3.cellv (p := ⟨q2.heap.size, 0, none⟩) (v := .slice Q2 0 o2) (by go_simp)
          have t3 := t2.trans hq3
          have rq2 := ((rowq2.rd (fun _ => rfl)).keep ((Bw.refl _).alloc (.cells #[.slice Q2 0 o2] 26))).keep hq3
          have z3 := (Bw.refl q3).alloc (.cells #[.slice Q3 0 o3] 26)
          have b3z := z3.cellv b3
          go_wp2_with (go_at_call 10; refine (c_vInts _ _ _ _ _ ([] : List Int) _ (by simp) (rq2.keep z3) ((rowq3.rd (fun _ => rfl)).keep z3)).mono ?_; rintro e q4 ⟨rfl, hq4⟩)
          have kD := ((kC).trans hq1).trans ((t3.trans z3).trans hq4)
          clear HQI HQS rq2 rowq2 rowq3 rdq rowq b3 b3z c2 c2b t0 t2 t3 z3
          refine (c_DrawLeavesOf A n c hn _ (h.keep kD)).mono ?_
          rintro e p1 ⟨⟨P1, i1, j1, zs, rfl, hi1, rowz⟩, hp1⟩
          have rdz := rowz.rd (fun _ => rfl)
          have HZI := Lib.hid (fun W hn h => c_iLeavesOf P1 i1 j1 zs W hn h)
          have HZS := Lib.hid (fun W hn h => c_sLeavesOf P1 i1 j1 zs W hn h)
          have hzl := leafR_len zs
          have hzi := rdz.ilen
          have hzp := leafR_pos (ps := zs)
          generalize leafR zs = ZL at *
          generalize goodP zs = zg at *
          have y0 := (Bw.refl p1).alloc (.cells #[.slice P1 i1 j1] 26)
          go_wp2_with fail
          refine (HZI.out _ (by omega) (rdz.keep y0)).mono ?_
          rintro e p2 ⟨⟨P2, j2, rfl, row2z⟩, hp2⟩
          have yc := hp2.cellv (p := ⟨p1.heap.size, 0, none⟩) (v := .slice P1 i1 j1) (by go_simp)
          go_wp2_with fail
          refine (HZS.out _ (by omega) (rdz.keep (y0.trans hp2))).mono ?_
          rintro e p3 ⟨⟨P3, j3, rfl, row3z⟩, hp3⟩
          have kp := ((kD).trans hp1).trans ((y0.trans hp2).trans hp3)
          have zgg : (zg == zg) = true := by simp
          clear HZI HZS
          cases zg
          · go_wp2_with (go_at_call 10; refine (c_vInts _ _ _ _ _ ZL _ (by omega) ((row2z.rd (fun _ => rfl)).keep hp3) (row3z.rd (fun _ => rfl))).mono ?_; rintro e p4 ⟨rfl, hp4⟩)
            go_ret
            exact ⟨rfl, kp.trans hp4⟩
          · have hzp := hzp rfl
            have hzp2 : (0 : Int) < ZL.length := by omega
            have hzp3 : decide ((0 : Int) < ZL.length) = true := by simpa using hzp2
            go_wp2_with (go_at_call 10; refine (c_vInts _ _ _ _ _ ZL _ (by omega) ((row2z.rd (fun _ => rfl)).keep hp3) (row3z.rd (fun _ => rfl))).mono ?_; rintro e p4 ⟨rfl, hp4⟩)
            go_ret
            exact ⟨rfl, kp.trans hp4⟩
        · have haz := add_yes hac
          have haf := add_facts hac
          rw [← haz.1] at haf
          rw [hac, haz.2, hql] at HQI HQS
          rw [hql] at haf
          obtain ⟨af1, af2, af3, af4, af5⟩ := haf
          have hlr := childR_len (addR qs x) x
          have hlf := leafR_len (addR qs x)
          have HCH := Lib.hid (fun A c W hn h => c_iChildrenOf A (addR qs x).length c (addR qs x) x W hn h)
          have HLV := Lib.hid (fun A c W hn h => c_iLeavesOf A (addR qs x).length c (addR qs x) W hn h)
          rw [af2] at HCH
          rw [af1] at HLV
          generalize childR (addR qs x) x = CH at *
          generalize leafR (addR qs x) = LV at *
          generalize addR qs x = AR at *
          clear haz hac af1 af2
          have t0 := (Bw.refl q1).alloc (.cells #[.slice Q1 m1 o1] 26)
          go_wp2_with fail
          refine (HQI.out _ (by omega) (rdq.keep t0)).mono ?_
          rintro e q2 ⟨⟨Q2, o2, rfl, rowq2⟩, hq2⟩
          have c2 := hq2.cellv (p := ⟨q1.heap.size, 0, none⟩) (v := .slice Q1 m1 o1) (by go_simp)
          have t2 := (t0.trans hq2).alloc (.cells #[.slice Q2 AR.length o2] 26)
          have c2b := ((Bw.refl q2).alloc (.cells #[.slice Q2 AR.length o2] 26)).cellv c2
          go_wp2_with fail
          refine (HQS.out _ (by omega) (rdq.keep t2)).mono ?_
          rintro e q3 ⟨⟨Q3, o3, rfl, rowq3⟩, hq3⟩
          have b3 := hq3.cellv (p := ⟨q2.heap.size, 0, none⟩) (v := .slice Q2 AR.length o2) (by go_simp)
          have t3 := t2.trans hq3
          have rq2 := ((rowq2.rd (fun _ => rfl)).keep ((Bw.refl _).alloc (.cells #[.slice Q2 AR.length o2] 26))).keep hq3
          have z3 := (Bw.refl q3).alloc (.cells #[.slice Q3 AR.length o3] 26)
          have b3z := z3.cellv b3
          go_wp2_with (go_at_call 10; refine (c_vInts _ _ _ _ _ AR _ (by omega) (rq2.keep z3) ((rowq3.rd (fun _ => rfl)).keep z3)).mono ?_; rintro e q4 ⟨rfl, hq4⟩; have b4 := (z3.trans hq4).cellv b3)
          have t4 := (t3.trans z3).trans hq4
          have rq4 := (rq2.keep z3).keep hq4
          refine (HCH.out _ _ _ (by omega) rq4).mono ?_
          rintro e q5 ⟨⟨Q5, o5, rfl, rowq5⟩, hq5⟩
          have b5 := hq5.cellv b4
          go_wp2_with fail
          refine (HLV.out _ _ _ (by omega) (rq4.keep hq5)).mono ?_
          rintro e q6 ⟨⟨Q6, o6, rfl, rowq6⟩, hq6⟩
          have r5 := (rowq5.rd (fun _ => rfl)).keep hq6
          have r6 := rowq6.rd (fun _ => rfl)
          go_wp2_with fail
          refine (c_vHas _ _ _ CH (m1 : Int) af3 _ (by omega) r5).mono ?_
          rintro e _ ⟨rfl, rfl⟩
          go_wp2_with fail
          refine (c_vHas _ _ _ LV (m1 : Int) af4 _ (by omega) r6).mono ?_
          rintro e _ ⟨rfl, rfl⟩
          go_wp2_with fail
          refine (c_vHas _ _ _ LV x af5 _ (by omega) r6).mono ?_
          rintro e _ ⟨rfl, rfl⟩
          go_wp2_with fail
          have kD := ((kC).trans hq1).trans ((t4.trans hq5).trans hq6)
          clear HQI HQS HCH HLV rq2 rq4 r5 r6 rowq2 rowq3 rowq5 rowq6 rdq rowq b3 b3z b4 b5 c2 c2b t0 t2 t3 t4 z3 af3 af4 af5
          refine (c_DrawLeavesOf A n c hn _ (h.keep kD)).mono ?_
          rintro e p1 ⟨⟨P1, i1, j1, zs, rfl, hi1, rowz⟩, hp1⟩
          have rdz := rowz.rd (fun _ => rfl)
          have HZI := Lib.hid (fun W hn h => c_iLeavesOf P1 i1 j1 zs W hn h)
          have HZS := Lib.hid (fun W hn h => c_sLeavesOf P1 i1 j1 zs W hn h)
          have hzl := leafR_len zs
          have hzi := rdz.ilen
          have hzp := leafR_pos (ps := zs)
          generalize leafR zs = ZL at *
          generalize goodP zs = zg at *
          have y0 := (Bw.refl p1).alloc (.cells #[.slice P1 i1 j1] 26)
          go_wp2_with fail
          refine (HZI.out _ (by omega) (rdz.keep y0)).mono ?_
          rintro e p2 ⟨⟨P2, j2, rfl, row2z⟩, hp2⟩
          have yc := hp2.cellv (p := ⟨p1.heap.size, 0, none⟩) (v := .slice P1 i1 j1) (by go_simp)
          go_wp2_with fail
          refine (HZS.out _ (by omega) (rdz.keep (y0.trans hp2))).mono ?_
          rintro e p3 ⟨⟨P3, j3, rfl, row3z⟩, hp3⟩
          have kp := ((kD).trans hp1).trans ((y0.trans hp2).trans hp3)
          have zgg : (zg == zg) = true := by simp
          clear HZI HZS
          cases zg
          · go_wp2_with (go_at_call 10; refine (c_vInts _ _ _ _ _ ZL _ (by omega) ((row2z.rd (fun _ => rfl)).keep hp3) (row3z.rd (fun _ => rfl))).mono ?_; rintro e p4 ⟨rfl, hp4⟩)
            go_ret
            exact ⟨rfl, kp.trans hp4⟩
          · have hzp := hzp rfl
            have hzp2 : (0 : Int) < ZL.length := by omega
            have hzp3 : decide ((0 : Int) < ZL.length) = true := by simpa using hzp2
            go_wp2_with (go_at_call 10; refine (c_vInts _ _ _ _ _ ZL _ (by omega) ((row2z.rd (fun _ => rfl)).keep hp3) (row3z.rd (fun _ => rfl))).mono ?_; rintro e p4 ⟨rfl, hp4⟩)
            go_ret
            exact ⟨rfl, kp.trans hp4⟩
      · have hpb := pt_back hub
        rw [hub] at HUI HUS
        rw [hpb.1, hpb.2] at HUT
        generalize ptP u = UP at *
        clear hub hpb
        go_wp2_with fail
        refine (HUI.out _ (hp.keep kv)).mono ?_
        rintro e v2 ⟨⟨V2, c2, rfl, row2⟩, hv2⟩
        have z2 := (Bw.refl v2).alloc (.cells #[.slice V2 UP.length c2] 26)
        have rd2 := (row2.rd (fun _ => rfl)).keep z2
        have hcp := row2.caps.1
        go_wp2_with fail
        refine (HUT.out _ _ _ hcp (hp.tab.keep ((kv.trans hv2).trans z2)) (by omega) rd2).mono ?_
        rintro e v3 ⟨rfl, hv3⟩
        have d3 := hv3.cellv (p := ⟨v2.heap.size, 0, none⟩) (v := .slice V2 UP.length c2) (by go_simp)
        go_wp2_with fail
        refine (HUS.out _).mono ?_
        rintro e v4 ⟨⟨V4, c4, rfl, row4⟩, hv4⟩
        have d4 := hv4.cellv d3
        have z4 := (Bw.refl v4).alloc (.cells #[.slice V4 UP.length c4] 26)
        have d4b := z4.cellv d4
        go_wp2_with (go_at_call 10; refine (c_vInts _ _ _ _ _ UP _ (by omega) (((rd2.keep hv3).keep hv4).keep z4) ((row4.rd (fun _ => rfl)).keep z4)).mono ?_; rintro e v5 ⟨rfl, hv5⟩)
        have kC := ((((kv.trans hv2).trans z2).trans hv3).trans hv4).trans (z4.trans hv5)
        clear HUI HUS HUT rd2 row2 row4 d3 d4 d4b z2 z4 hcp
        refine (c_DrawAddLeaf A n c hn _ (h.keep kC)).mono ?_
        rintro e q1 ⟨⟨Q1, m1, o1, qs, x, rfl, hm1, rowq⟩, hq1⟩
        have rdq := rowq.rd (fun _ => rfl)
        have hql := rdq.ilen
        have HQI := Lib.hid (fun W hn h => c_iAddLeaf Q1 m1 o1 qs x W hn h)
        have HQS := Lib.hid (fun W hn h => c_sAddLeaf Q1 m1 o1 qs x W hn h)
        have hqz := addR_len (ps := qs) (x := x) (by omega)
        cases hac : addC qs x
        · have haz := add_no hac
          rw [hac] at HQI HQS
          rw [haz.1, haz.2] at HQI HQS
          simp only [List.length_nil] at HQI HQS
          clear haz hac hqz
          have t0 := (Bw.refl q1).alloc (.cells #[.slice Q1 m1 o1] 26)
          go_wp2_with fail
          refine (HQI.out _ (by omega) (rdq.keep t0)).mono ?_
          rintro e q2 ⟨⟨Q2, o2, rfl, rowq2⟩, hq2⟩
          have c2 := hq2.cellv (p := ⟨q1.heap.size, 0, none⟩) (v := .slice Q1 m1 o1) (by go_simp)
          have t2 := (t0.trans hq2).alloc (.cells #[.slice Q2 0 o2] 26)
          have c2b := ((Bw.refl q2).alloc (.cells #[.slice Q2 0 o2] 26)).cellv c2
          go_wp2_with fail
          refine (HQS.out _ (by omega) (rdq.keep t2)).mono ?_
          rintro e q3 ⟨⟨Q3, o3, rfl, rowq3⟩, hq3⟩
          have b3 := hq3.cellv (p := ⟨q2.heap.size, 0, none⟩) (v := .slice Q2 0 o2) (by go_simp)
          have t3 := t2.trans hq3
          have rq2 := ((rowq2.rd (fun _ => rfl)).keep ((Bw.refl _).alloc (.cells #[.slice Q2 0 o2] 26))).keep hq3
          have z3 := (Bw.refl q3).alloc (.cells #[.slice Q3 0 o3] 26)
          have b3z := z3.cellv b3
          go_wp2_with (go_at_call 10; refine (c_vInts _ _ _ _ _ ([] : List Int) _ (by simp) (rq2.keep z3) ((rowq3.rd (fun _ => rfl)).keep z3)).mono ?_; rintro e q4 ⟨rfl, hq4⟩)
          have kD := ((kC).trans hq1).trans ((t3.trans z3).trans hq4)
          clear HQI HQS rq2 rowq2 rowq3 rdq rowq b3 b3z c2 c2b t0 t2 t3 z3
          refine (c_DrawLeavesOf A n c hn _ (h.keep kD)).mono ?_
          rintro e p1 ⟨⟨P1, i1, j1, zs, rfl, hi1, rowz⟩, hp1⟩
          have rdz := rowz.rd (fun _ => rfl)
          have HZI := Lib.hid (fun W hn h => c_iLeavesOf P1 i1 j1 zs W hn h)
          have HZS := Lib.hid (fun W hn h => c_sLeavesOf P1 i1 j1 zs W hn h)
          have hzl := leafR_len zs
          have hzi := rdz.ilen
          have hzp := leafR_pos (ps := zs)
          generalize leafR zs = ZL at *
          generalize goodP zs = zg at *
          have y0 := (Bw.refl p1).alloc (.cells #[.slice P1 i1 j1] 26)
          go_wp2_with fail
          refine (HZI.out _ (by omega) (rdz.keep y0)).mono ?_
          rintro e p2 ⟨⟨P2, j2, rfl, row2z⟩, hp2⟩
          have yc := hp2.cellv (p := ⟨p1.heap.size, 0, none⟩) (v := .slice P1 i1 j1) (by go_simp)
          go_wp2_with fail
          refine (HZS.out _ (by omega) (rdz.keep (y0.trans hp2))).mono ?_
          rintro e p3 ⟨⟨P3, j3, rfl, row3z⟩, hp3⟩
          have kp := ((kD).trans hp1).trans ((y0.trans hp2).trans hp3)
          have zgg : (zg == zg) = true := by simp
          clear HZI HZS
          cases zg
          · go_wp2_with (go_at_call 10; refine (c_vInts _ _ _ _ _ ZL _ (by omega) ((row2z.rd (fun _ => rfl)).keep hp3) (row3z.rd (fun _ => rfl))).mono ?_; rintro e p4 ⟨rfl, hp4⟩)
            go_ret
            exact ⟨rfl, kp.trans hp4⟩
          · have hzp := hzp rfl
            have hzp2 : (0 : Int) < ZL.length := by omega
            have hzp3 : decide ((0 : Int) < ZL.length) = true := by simpa using hzp2
            go_wp2_with (go_at_call 10; refine (c_vInts _ _ _ _ _ ZL _ (by omega) ((row2z.rd (fun _ => rfl)).keep hp3) (row3z.rd (fun _ => rfl))).mono ?_; rintro e p4 ⟨rfl, hp4⟩)
            go_ret
            exact ⟨rfl, kp.trans hp4⟩
        · have haz := add_yes hac
          have haf := add_facts hac
          rw [← haz.1] at haf
          rw [hac, haz.2, hql] at HQI HQS
          rw [hql] at haf
          obtain ⟨af1, af2, af3, af4, af5⟩ := haf
          have hlr := childR_len (addR qs x) x
          have hlf := leafR_len (addR qs x)
          have HCH := Lib.hid (fun A c W hn h => c_iChildrenOf A (addR qs x).length c (addR qs x) x W hn h)
          have HLV := Lib.hid (fun A c W hn h => c_iLeavesOf A (addR qs x).length c (addR qs x) W hn h)
          rw [af2] at HCH
          rw [af1] at HLV
          generalize childR (addR qs x) x = CH at *
          generalize leafR (addR qs x) = LV at *
          generalize addR qs x = AR at *
          clear haz hac af1 af2
          have t0 := (Bw.refl q1).alloc (.cells #[.slice Q1 m1 o1] 26)
          go_wp2_with fail
          refine (HQI.out _ (by omega) (rdq.keep t0)).mono ?_
          rintro e q2 ⟨⟨Q2, o2, rfl, rowq2⟩, hq2⟩
          have c2 := hq2.cellv (p := ⟨q1.heap.size, 0, none⟩) (v := .slice Q1 m1 o1) (by go_simp)
          have t2 := (t0.trans hq2).alloc (.cells #[.slice Q2 AR.length o2] 26)
          have c2b := ((Bw.refl q2).alloc (.cells #[.slice Q2 AR.length o2] 26)).cellv c2
          go_wp2_with fail
          refine (HQS.out _ (by omega) (rdq.keep t2)).mono ?_
          rintro e q3 ⟨⟨Q3, o3, rfl, rowq3⟩, hq3⟩
          have b3 := hq3.cellv (p := ⟨q2.heap.size, 0, none⟩) (v := .slice Q2 AR.length o2) (by go_simp)
          have t3 := t2.trans hq3
          have rq2 := ((rowq2.rd (fun _ => rfl)).keep ((Bw.refl _).alloc (.cells #[.slice Q2 AR.length o2] 26))).keep hq3
          have z3 := (Bw.refl q3).alloc (.cells #[.slice Q3 AR.length o3] 26)
          have b3z := z3.cellv b3
          go_wp2_with (go_at_call 10; refine (c_vInts _ _ _ _ _ AR _ (by omega) (rq2.keep z3) ((rowq3.rd (fun _ => rfl)).keep z3)).mono ?_; rintro e q4 ⟨rfl, hq4⟩; have b4 := (z3.trans hq4).cellv b3)
          have t4 := (t3.trans z3).trans hq4
          have rq4 := (rq2.keep z3).keep hq4
          refine (HCH.out _ _ _ (by omega) rq4).mono ?_
          rintro e q5 ⟨⟨Q5, o5, rfl, rowq5⟩, hq5⟩
          have b5 := hq5.cellv b4
          go_wp2_with fail
          refine (HLV.out _ _ _ (by omega) (rq4.keep hq5)).mono ?_
          rintro e q6 ⟨⟨Q6, o6, rfl, rowq6⟩, hq6⟩
          have r5 := (rowq5.rd (fun _ => rfl)).keep hq6
          have r6 := rowq6.rd (fun _ => rfl)
          go_wp2_with fail
          refine (c_vHas _ _ _ CH (m1 : Int) af3 _ (by omega) r5).mono ?_
          rintro e _ ⟨rfl, rfl⟩
          go_wp2_with fail
          refine (c_vHas _ _ _ LV (m1 : Int) af4 _ (by omega) r6).mono ?_
          rintro e _ ⟨rfl, rfl⟩
          go_wp2_with fail
          refine (c_vHas _ _ _ LV x af5 _ (by omega) r6).mono ?_
          rintro e _ ⟨rfl, rfl⟩
          go_wp2_with fail
          have kD := ((kC).trans hq1).trans ((t4.trans hq5).trans hq6)
          clear HQI HQS HCH HLV rq2 rq4 r5 r6 rowq2 rowq3 rowq5 rowq6 rdq rowq b3 b3z b4 b5 c2 c2b t0 t2 t3 t4 z3 af3 af4 af5
          refine (c_DrawLeavesOf A n c hn _ (h.keep kD)).mono ?_
          rintro e p1 ⟨⟨P1, i1, j1, zs, rfl, hi1, rowz⟩, hp1⟩
          have rdz := rowz.rd (fun _ => rfl)
          have HZI := Lib.hid (fun W hn h => c_iLeavesOf P1 i1 j1 zs W hn h)
          have HZS := Lib.hid (fun W hn h => c_sLeavesOf P1 i1 j1 zs W hn h)
          have hzl := leafR_len zs
          have hzi := rdz.ilen
          have hzp := leafR_pos (ps := zs)
          generalize leafR zs = ZL at *
          generalize goodP zs = zg at *
          have y0 := (Bw.refl p1).alloc (.cells #[.slice P1 i1 j1] 26)
          go_wp2_with fail
          refine (HZI.out _ (by omega) (rdz.keep y0)).mono ?_
          rintro e p2 ⟨⟨P2, j2, rfl, row2z⟩, hp2⟩
          have yc := hp2.cellv (p := ⟨p1.heap.size, 0, none⟩) (v := .slice P1 i1 j1) (by go_simp)
          go_wp2_with fail
          refine (HZS.out _ (by omega) (rdz.keep (y0.trans hp2))).mono ?_
          rintro e p3 ⟨⟨P3, j3, rfl, row3z⟩, hp3⟩
          have kp := ((kD).trans hp1).trans ((y0.trans hp2).trans hp3)
          have zgg : (zg == zg) = true := by simp
          clear HZI HZS
          cases zg
          · go_wp2_with (go_at_call 10; refine (c_vInts _ _ _ _ _ ZL _ (by omega) ((row2z.rd (fun _ => rfl)).keep hp3) (row3z.rd (fun _ => rfl))).mono ?_; rintro e p4 ⟨rfl, hp4⟩)
            go_ret
            exact ⟨rfl, kp.trans hp4⟩
          · have hzp := hzp rfl
            have hzp2 : (0 : Int) < ZL.length := by omega
            have hzp3 : decide ((0 : Int) < ZL.length) = true := by simpa using hzp2
            go_wp2_with (go_at_call 10; refine (c_vInts _ _ _ _ _ ZL _ (by omega) ((row2z.rd (fun _ => rfl)).keep hp3) (row3z.rd (fun _ => rfl))).mono ?_; rintro e p4 ⟨rfl, hp4⟩)
            go_ret
            exact ⟨rfl, kp.trans hp4⟩
end Go.Proofs.YthciecmofgoebaaGreatDoor
