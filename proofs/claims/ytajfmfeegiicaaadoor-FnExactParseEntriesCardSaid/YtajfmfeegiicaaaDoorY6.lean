
/- ParseEntries: the reference's side. -/
import Derived.Test.YtajfmfeegiicaaaDoorY5
import Derived.Test.YtajfmfeegiicaaaDoorQ3
import Derived.Test.YtajfmfeegiicaaaDoorE4
namespace Go.Proofs.YtajfmfeegiicaaaDoor
open Go.RowKit Go.Shelf
theorem RowE.empty (w : World) (lo : Nat) (hlo : lo ≤ w.heap.size) : RowE (w.alloc (.cells #[] 49)) lo (some ⟨w.heap.size, 0, none⟩) 0 0 [] [] :=
  ⟨Row.empty w lo _ _ _ hlo, rfl, fun k hk => absurd hk (by omega), fun k hk => absurd hk (by omega), fun j k hj => absurd hj (by omega)⟩
noncomputable def okTo (s : ByteArray) : Nat → Bool
  | 0 => rdB (strAt (splB 59 s) 0)
  | k + 1 => okTo s k && sO (strAt (splB 59 s) (k + 1))
theorem okTo_can {s : ByteArray} {u : Nat} {es : List Ev} (h : CanE s u es) : ∀ k, k + 1 ≤ (splB 59 s).length → okTo s k = true
  | 0, _ => h.spec.1
  | k + 1, hk => by
    have := okTo_can h k (by omega)
    rw [okTo, this, (h.spec.2.2.2 k (by omega)).2]; rfl
set_option maxRecDepth 100000 in
set_option maxHeartbeats 4000000 in
theorem c_sParseEntries (s : ByteArray) (hs : s.size ≤ 1048576) (w : World) :
    Calls Tryd.prog 10 #[.string s] w fun e w' => (∃ A c ts, e = .returned (.tuple #[.agg #[.int .i64 (peU s), .slice A (peE s).length c], .bool (peB s)]) ∧ RowE w' w.heap.size A (peE s).length c (peE s) ts) ∧ Bw w w' := by
  have hbx := ((Bw.refl w).alloc (.cells #[.int .i64 0, .slice none 0 0] 30)).alloc (.cells #[.int .i64 0, .slice none 0 0] 30)
  have hlen := splB_len 59 s
  have hpos : 0 < (splB 59 s).length := splB_pos 59 s
  have hz0 := splB_piece 59 s 0 hpos
  go_enter Tryd.func10, Tryd.ntmps10
  go_wp2_with fail
  refine (c_l1Split s 59 hs _).mono ?_
  rintro e w1 ⟨⟨A1, c1, rfl, row1⟩, hb1⟩
  have k1 := hbx.trans hb1
  simp only [World.size_alloc] at row1
  obtain ⟨g, rfl, hg0, hg1, _, hc⟩ := row1.strs hpos
  have q0 := hc 0 hpos
  clear hc
  have HC := Lib.hid (fun W => c_l1Read (strAt (splB 59 s) 0) (by omega) W)
  have HN := Lib.hid (show rdV (strAt (splB 59 s) 0) = sC s from rfl)
  have HO0 := Lib.hid (show okTo s 0 = rdB (strAt (splB 59 s) 0) from rfl)
  have hpi : (0 : Int) < (splB 59 s).length := by omega
  generalize strAt (splB 59 s) 0 = x0 at *
  go_wp2_with fail
  refine (HC.out _).mono ?_
  rintro e w2 ⟨rfl, hb2⟩
  rw [HN.out]
  have k2 := k1.trans hb2
  have k02 := hb1.trans hb2
  have r0 := k02.cellv (p := ⟨w.heap.size, 0, none⟩) (v := .int .i64 0) (by go_simp)
  have r1 := k02.cellv (p := ⟨w.heap.size, 1, none⟩) (v := .slice none 0 0) (by go_simp)
  have rf : ∀ j, w2.frozen? ⟨w.heap.size, j, none⟩ = false := fun j => (k02.frz ⟨w.heap.size, j, none⟩ (by simp; omega)).trans (by go_simp)
  have n0 := k02.cellv (p := ⟨w.heap.size + 1, 0, none⟩) (v := .int .i64 0) (by go_simp)
  have n1 := k02.cellv (p := ⟨w.heap.size + 1, 1, none⟩) (v := .slice none 0 0) (by go_simp)
  have hlt : w.heap.size + 1 < w2.heap.size := World.block_lt_of_cell? w2 ⟨w.heap.size + 1, 0, none⟩ n0
  have hbb2 := hb2.size
  have ka := (Bw.refl w2).alloc (.cells #[] 49)
  have kb := (Bw.refl (w2.alloc (.cells #[] 49))).alloc (.cells #[.int .i64 (sC s), .slice (some ⟨w2.heap.size, 0, none⟩) 0 0] 30)
  have kab := ka.trans kb
  have P1 : PE w ((w2.alloc (.cells #[] 49)).alloc (.cells #[.int .i64 (sC s), .slice (some ⟨w2.heap.size, 0, none⟩) 0 0] 30)) (w.heap.size + 2) w.heap.size (w.heap.size + 1) (w2.heap.size + 1) (sC s) (some ⟨w2.heap.size, 0, none⟩) 0 0 [] [] (some ⟨g, 0, none⟩) (splB 59 s).length c1 (splB 59 s) :=
    ⟨Nat.le_refl _, by omega, by omega, by omega, by omega, by go_simp, by go_simp, fun j => by go_simp, kab.cellv r0, kab.cellv r1, fun j => (kab.frz ⟨w.heap.size, j, none⟩ (by dsimp only; omega)).trans (rf j), kab.cellv n0, kab.cellv n1, (RowE.empty w2 _ (by omega)).keep kb, fun x hx => (by simp only [Option.some.injEq] at hx; subst hx; dsimp only; omega), fun k hk => absurd hk (by omega), (((row1.keep hb2).keep kab).mono (by omega)), fun x hx => (by simp only [Option.some.injEq] at hx; subst hx; dsimp only; omega), fun x y hx hy => (by simp only [Option.some.injEq] at hx hy; subst hx hy; dsimp only; omega), k2.trans kab⟩
  clear row1 r0 r1 rf n0 n1 ka kb kab k02 HC q0 hz0
  have HP1 := Lib.hid P1
  clear P1
  obtain ⟨N, hN⟩ : ∃ N, (splB 59 s).length = N + 1 := ⟨(splB 59 s).length - 1, by omega⟩
  rw [hN] at HP1 hlen ⊢
  have HN1 := Lib.hid hN
  clear hN hpos hpi
  by_cases h200 : s.size ≤ 200
  · go_wp2_with fail
    generalize (w2.alloc (.cells #[] 49)).alloc (.cells #[.int .i64 (sC s), .slice (some ⟨w2.heap.size, 0, none⟩) 0 0] 30) = w3 at *
    generalize w2.heap.size + 1 = T at *
    go_loopw [7, 9] (fun o i wr => ∃ k : Nat, ∃ A' c' ts, k ≤ N ∧ i = .int .i64 ((k : Int) + 1) ∧ o = .bool (okTo s k) ∧ PE w wr (w.heap.size + 2) w.heap.size (w.heap.size + 1) T (sC s) A' k c' ((((splB 59 s).drop 1).take k).map sV) ts (some ⟨g, 0, none⟩) (N + 1) c1 (splB 59 s)) (fun _ i _ => N + 1 - (intOf i).toNat)
    case atStart => exact ⟨0, _, _, _, Nat.zero_le _, rfl, by rw [HO0.out], HP1.out⟩
    case round =>
      obtain ⟨k, A', c', ts, hk, rfl, rfl, hP⟩ := hrel
      have HP2 := Lib.hid hP
      have hs4 : w.heap.size + 1 < wr.heap.size := World.block_lt_of_cell? wr ⟨w.heap.size + 1, 0, none⟩ hP.b0
      have hT4 : T < wr.heap.size := World.block_lt_of_cell? wr ⟨T, 0, none⟩ hP.t0
      have a0 := hP.a0
      have a1 := hP.a1
      have af0 := hP.af 0
      have af1 := hP.af 1
      have b0 := hP.b0
      have b1 := hP.b1
      clear hP
      by_cases hltk : k < N
      · have hsz := splB_piece 59 s (k + 1) (by rw [HN1.out]; omega)
        obtain ⟨g', hg', _, _, _, hc⟩ := HP2.out.wrow.strs (by omega)
        obtain rfl : g = g' := by simpa using hg'
        have q0 := hc (k + 1) (by omega)
        clear hc hg'
        have HD := Lib.hid (ents_take (f := sV) (ws := splB 59 s) (k := k) (by rw [HN1.out]; omega))
        have HX := Lib.hid (fun u es (hc : CanE s u es) => hc.spec.2.2.2 k (by rw [HN1.out]; omega))
        have HK := Lib.hid (show okTo s (k + 1) = (okTo s k && sO (strAt (splB 59 s) (k + 1))) from rfl)
        have hkk : ((k : Int) + 1).toNat = k + 1 := by omega
        have hi1 : (k : Int) + 1 < (N : Int) + 1 := by omega
        have hi2 : (s.size : Int) ≤ 200 := by omega
        generalize okTo s k = okk at *
        generalize strAt (splB 59 s) (k + 1) = x at q0 HD hsz HX HK
        go_wp2_with fail
        refine (c_l1Split x 32 (by omega) _).mono ?_
        rintro e w4 ⟨⟨Aw, cw, rfl, roww⟩, hb4⟩
        have a04 := hb4.cellv a0
        have a14 := hb4.cellv a1
        have af04 := (hb4.frz ⟨w.heap.size, 0, none⟩ (by dsimp only; omega)).trans af0
        have af14 := (hb4.frz ⟨w.heap.size, 1, none⟩ (by dsimp only; omega)).trans af1
        have b04 := hb4.cellv b0
        have b14 := hb4.cellv b1
        clear a0 a1 af0 af1 b0 b1
        by_cases h6 : (splB 32 x).length = 6
        · have HW := Lib.hid (fun j hj => splB_piece 32 x j hj)
          have HSO := Lib.hid (show sO x = (rdB (strAt (splB 32 x) 1) && rdB (strAt (splB 32 x) 5)) from rfl)
          have HSV := Lib.hid (show sV x = ⟨rdV (strAt (splB 32 x) 1), rdV (strAt (splB 32 x) 5), fcs (strAt (splB 32 x) 3)⟩ from rfl)
          have hw1 := HW.out 1 (by omega)
          have hw3 := HW.out 3 (by omega)
          have hw5 := HW.out 5 (by omega)
          generalize splB 32 x = ws at *
          obtain ⟨gw, rfl, hgw0, hgw1, _, hcw⟩ := roww.strs (by omega)
          have p1 := hcw 1 (by omega)
          have p3 := hcw 3 (by omega)
          have p5 := hcw 5 (by omega)
          rw [h6] at roww ⊢
          clear hcw h6
          have H1 := Lib.hid (fun W => c_l1Read (strAt ws 1) (by omega) W)
          have H5 := Lib.hid (fun W => c_l1Read (strAt ws 5) (by omega) W)
          generalize strAt ws 1 = x1 at *
          generalize strAt ws 3 = x3 at *
          generalize strAt ws 5 = x5 at *
          generalize rdV x1 = nu at *
          generalize rdV x5 = un at *
          generalize rdB x1 = o1 at *
          generalize rdB x5 = o5 at *
          go_wp2_with fail
          refine (H1.out _).mono ?_
          rintro e w5 ⟨rfl, hb5⟩
          have p35 := hb5.cellv p3
          have p55 := hb5.cellv p5
          go_wp2_with fail
          refine (H5.out _).mono ?_
          rintro e w6 ⟨rfl, hb6⟩
          have p36 := hb6.cellv p35
          have hb46 := (hb4.trans hb5).trans hb6
          clear p1 p3 p5 p35 p55 a04 a14 af04 af14 b04 b14
          go_wp2_with fail
          go_loopw [15, 16] (fun f i wq => ∃ j : Nat, ∃ B cB, j ≤ x3.size ∧ i = .int .i64 j ∧ f = .slice B j cB ∧ Row wq w6.heap.size 3 1 icell B j cB ((fcs x3).take j) ∧ Bw w6 wq) (fun _ i _ => x3.size - (intOf i).toNat)
          case atStart => exact ⟨0, _, _, Nat.zero_le _, rfl, rfl, Row.empty w6 _ _ _ _ (Nat.le_refl _), (Bw.refl _).alloc _⟩
          case round =>
            obtain ⟨j, B, cB, hj, rfl, rfl, hrow, hbq⟩ := hrel
            have p3q := hbq.cellv p36
            have hs0 := hbq.size
            by_cases hlj : j < x3.size
            · have HF := Lib.hid (fcs_take hlj)
              have hbl8 : (x3[j]).toNat < 256 := UInt8.toNat_lt _
              have hwc := IntWalk.i64_in ((x3[j]).toNat : Int) (by omega)
              have hwv := IntWalk.i64_in (((x3[j]).toNat : Int) - 48) (by omega)
              generalize (fcs x3).take j = fs at *
              go_wp2_with (at_builtin; refine append_intL rfl _ _ rfl _ _ _ _ rfl hrow _ _ rfl rfl ?_ ?_ ?_; omega; exact hs0; intro A2 c2 w7 hrow7 hg7 hmv7)
              go_roundw
              case rel => exact ⟨j + 1, A2, c2, by omega, by go_num, rfl, by rw [HF.out]; simpa using hrow7, Bw.ofRow hbq hg7 (fun x hx => (hrow.lt x hx).1)⟩
              case measure => simp [intOf]; omega
            · obtain rfl : j = x3.size := by omega
              have hfe : (fcs x3).take x3.size = fcs x3 := List.take_of_length_le (by simp [fcs])
              rw [hfe] at hrow
              have HP4 := Lib.hid (HP2.out.keep (hb46.trans hbq))
              have t4 := HP4.out.t1
              have hrow4 := HP4.out.row.row
              have hls4 := (hb46.trans hbq).size
              have hl46 := hb46.size
              have HSV2 := Lib.hid (show sV x = ⟨nu, un, fcs x3⟩ from HSV.out)
              generalize fcs x3 = fs at *
              cases okk <;> cases o1 <;> cases o5
              all_goals
                go_wp2_with (at_builtin; refine append_ent rfl _ _ rfl _ _ _ _ rfl hrow4 _ _ _ _ _ fs _ rfl ?_ ?_ ?_ ?_; (first | rfl | simp); omega; (first | omega | (simp; omega)); intro A2 c2 w7 row7 hg7 hmv7; have HQ := Lib.hid (HP4.out.push (v := ⟨nu, un, fs⟩) (hrow.mono (by omega)) (fun x y hx hy => by have h1 := (hrow.lt x hx).1; have h2 := (HP2.out.row.row.lt y hy).2; omega) (fun j hj x y hx hy => by have h1 := (hrow.lt x hx).1; have h2 := (HP2.out.row.flt hj hy).2; omega) (fun x hx => by have h1 := (hrow.lt x hx).1; omega) row7 hg7 hmv7); have t7 := HQ.out.2.1; have f7 := HQ.out.2.2 1)
                all_goals
                  go_roundw
                  case rel => exact ⟨k + 1, A2, c2, _, by omega, by go_num, by rw [HK.out, HSO.out]; rfl, by rw [HD.out, HSV2.out]; exact HQ.out.1⟩
                  case measure => simp [intOf]; omega
        · have h6i : ((((splB 32 x).length : Nat) : Int) != 6) = true := by simp; omega
          have HB := Lib.hid (pe_no (s := s) (fun u ts hc => h6 (HX.out u ts hc).1))
          have HP5 := Lib.hid (HP2.out.keep hb4)
          clear h6
          go_wp2
          (try simp only [Exit.inBlock, Exit.then])
          have heq : Ending.returned (.tuple #[.agg #[.int .i64 0, .slice none 0 0], .bool false]) = Ending.returned (.tuple #[.agg #[.int .i64 (peU s), .slice none (peE s).length 0], .bool (peB s)]) := by rw [HB.out.1, HB.out.2.1, HB.out.2.2]; rfl
          have hrn : ∀ W, RowE W w.heap.size none (peE s).length 0 (peE s) [] := by intro W; rw [HB.out.2.2]; exact RowE.nil _ _
          refine bodyPost_ret (v := .tuple #[.agg #[.int .i64 0, .slice none 0 0], .bool false]) (by simp [results, Tryd.results10, go_sem, a04, a14]) rfl ⟨?_, (HP5.out.b.setCell (by simp) _).setCell (by simp) _⟩
          first | exact ⟨none, 0, [], heq, hrn _⟩ | exact ⟨none, 0, heq, [], hrn _⟩
      · obtain rfl : k = N := by omega
        have hT : (((splB 59 s).drop 1).take k).map sV = sE s := by rw [List.take_of_length_le (by rw [List.length_drop, HN1.out]; omega)]; rfl
        rw [hT] at HP2
        have HP3 := HP2
        have HSP := Lib.hid (show ∀ u es, CanE s u es → okTo s k = true ∧ sC s = u ∧ sE s = es from fun u es hc => ⟨okTo_can hc k (by rw [HN1.out]; omega), hc.spec.2.1, hc.spec.2.2.1⟩)
        clear hT
        generalize okTo s k = okb at *
        generalize sE s = E at *
        have hi1 : ¬ (k : Int) + 1 < (k : Int) + 1 := by omega
        have hlL := HP3.out.row.rd.len
        have HLL := Lib.hid hlL
        clear hlL
        have t0 := HP3.out.t0
        have t1 := HP3.out.t1
        have rdw := HP3.out.row.rd
        cases okb
        · have HB := Lib.hid (pe_no (s := s) (fun u es hc => by have := (HSP.out u es hc).1; cases this))
          have r0 := HP3.out.a0
          have r1 := HP3.out.a1
          have rf0 := HP3.out.af 0
          have rf1 := HP3.out.af 1
          have n0 := HP3.out.b0
          have n1 := HP3.out.b1
          go_wp2
          (try simp only [Exit.inBlock, Exit.then])
          have heq : Ending.returned (.tuple #[.agg #[.int .i64 0, .slice none 0 0], .bool false]) = Ending.returned (.tuple #[.agg #[.int .i64 (peU s), .slice none (peE s).length 0], .bool (peB s)]) := by rw [HB.out.1, HB.out.2.1, HB.out.2.2]; rfl
          have hrn : ∀ W, RowE W w.heap.size none (peE s).length 0 (peE s) [] := by intro W; rw [HB.out.2.2]; exact RowE.nil _ _
          refine bodyPost_ret (v := .tuple #[.agg #[.int .i64 0, .slice none 0 0], .bool false]) (by simp [results, Tryd.results10, go_sem, r0, r1]) rfl ⟨?_, (HP3.out.b.setCell (by simp) _).setCell (by simp) _⟩
          first | exact ⟨none, 0, [], heq, hrn _⟩ | exact ⟨none, 0, heq, [], hrn _⟩
        · cases hr : elB (sC s) E
          · have HB := Lib.hid (pe_no (s := s) (fun u es hc => by
              have h := HSP.out u es hc
              have h2 := hc.1
              rw [← h.2.1, ← h.2.2, hr] at h2
              cases h2))
            have HR := Lib.hid hr
            clear hr
            go_wp2_with (go_at_call 15; refine (c_l14Good _ _ _ _ E ts HR.out _ (by omega) rdw).mono ?_; rintro e w5 ⟨rfl, hb5⟩; have HP5 := Lib.hid (HP3.out.keep hb5); have r0 := HP5.out.a0; have r1 := HP5.out.a1; have rf0 := HP5.out.af 0; have rf1 := HP5.out.af 1; have n0 := HP5.out.b0; have n1 := HP5.out.b1)
            (try simp only [Exit.inBlock, Exit.then])
            have heq : Ending.returned (.tuple #[.agg #[.int .i64 0, .slice none 0 0], .bool false]) = Ending.returned (.tuple #[.agg #[.int .i64 (peU s), .slice none (peE s).length 0], .bool (peB s)]) := by rw [HB.out.1, HB.out.2.1, HB.out.2.2]; rfl
            have hrn : ∀ W, RowE W w.heap.size none (peE s).length 0 (peE s) [] := by intro W; rw [HB.out.2.2]; exact RowE.nil _ _
            refine bodyPost_ret (v := .tuple #[.agg #[.int .i64 0, .slice none 0 0], .bool false]) (by simp [results, Tryd.results10, go_sem, r0, r1]) rfl ⟨?_, (HP5.out.b.setCell (by simp) _).setCell (by simp) _⟩
            first | exact ⟨none, 0, [], heq, hrn _⟩ | exact ⟨none, 0, heq, [], hrn _⟩
          · obtain ⟨⟨u, hu, hu2⟩, h8, hi⟩ := el_facts hr
            have HR := Lib.hid hr
            have HI := Lib.hid hi
            have HU := Lib.hid hu
            rw [HLL.out] at h8
            clear hr hi
            rw [hu] at t0
            clear hu
            have HRu := Lib.hid (show elB (u : Int) E = true by rw [← HU.out]; exact HR.out)
            by_cases he : entsT u E = s
            · have HB := Lib.hid (pe_yes (s := s) (u := u) (es := E) ⟨by rw [← HU.out]; exact HR.out, he⟩)
              have he2 : ((entsT u E).toList == s.toList) = true := by rw [he]; simp
              clear he
              go_wp2_with (first | (go_at_call 15; refine (c_l14Good _ _ _ _ E ts HRu.out _ (by omega) rdw).mono ?_; rintro e w5 ⟨rfl, hb5⟩; have t05 := hb5.cellv t0; have t15 := hb5.cellv t1) | (go_at_call 16; refine (c_l14Text u hu2 _ _ _ E ts h8 HI.out _ (rdw.keep hb5)).mono ?_; rintro e w6 ⟨rfl, hb6⟩; have HP6 := Lib.hid (HP3.out.keep (hb5.trans hb6)); have r0 := HP6.out.a0; have r1 := HP6.out.a1; have rf0 := HP6.out.af 0; have rf1 := HP6.out.af 1; have t06 := hb6.cellv t05; have t16 := hb6.cellv t15))
              (try simp only [Exit.inBlock, Exit.then])
              refine bodyPost_ret (v := .tuple #[.agg #[.int .i64 (u : Int), .slice A' k c'], .bool true]) (by simp [results, Tryd.results10, go_sem, r0, r1]) rfl ⟨⟨A', c', ts, by rw [HB.out.1, HB.out.2.1, HB.out.2.2, HLL.out], by rw [HB.out.2.2, HLL.out]; exact (HP6.out.row.off2 (by omega) _ _).mono (by omega)⟩, (HP6.out.b.setCell (by simp) _).setCell (by simp) _⟩
            · have HB := Lib.hid (pe_no (s := s) (fun u' es hc => by
                have h := HSP.out u' es hc
                have e1 : u = u' := by have := HU.out.symm.trans h.2.1; omega
                exact he (by rw [h.2.2, e1]; exact hc.2)))
              have he2 := text_ne he
              clear he
              go_wp2_with (first | (go_at_call 15; refine (c_l14Good _ _ _ _ E ts HRu.out _ (by omega) rdw).mono ?_; rintro e w5 ⟨rfl, hb5⟩; have t05 := hb5.cellv t0; have t15 := hb5.cellv t1) | (go_at_call 16; refine (c_l14Text u hu2 _ _ _ E ts h8 HI.out _ (rdw.keep hb5)).mono ?_; rintro e w6 ⟨rfl, hb6⟩; have HP6 := Lib.hid (HP3.out.keep (hb5.trans hb6)); have r0 := HP6.out.a0; have r1 := HP6.out.a1; have rf0 := HP6.out.af 0; have rf1 := HP6.out.af 1; have n0 := HP6.out.b0; have n1 := HP6.out.b1))
              (try simp only [Exit.inBlock, Exit.then])
              have heq : Ending.returned (.tuple #[.agg #[.int .i64 0, .slice none 0 0], .bool false]) = Ending.returned (.tuple #[.agg #[.int .i64 (peU s), .slice none (peE s).length 0], .bool (peB s)]) := by rw [HB.out.1, HB.out.2.1, HB.out.2.2]; rfl
              have hrn : ∀ W, RowE W w.heap.size none (peE s).length 0 (peE s) [] := by intro W; rw [HB.out.2.2]; exact RowE.nil _ _
              refine bodyPost_ret (v := .tuple #[.agg #[.int .i64 0, .slice none 0 0], .bool false]) (by simp [results, Tryd.results10, go_sem, r0, r1]) rfl ⟨?_, (HP6.out.b.setCell (by simp) _).setCell (by simp) _⟩
              first | exact ⟨none, 0, [], heq, hrn _⟩ | exact ⟨none, 0, heq, [], hrn _⟩
  · have hE0 : ∀ u es, CanE s u es → False := fun u es hc => by have := hc.size; omega
    have hng : ¬ (s.size : Int) ≤ 200 := by omega
    go_wp2_with fail
    generalize (w2.alloc (.cells #[] 49)).alloc (.cells #[.int .i64 (sC s), .slice (some ⟨w2.heap.size, 0, none⟩) 0 0] 30) = w3 at *
    generalize hokb : rdB x0 = okb at *
    have HSP := Lib.hid (show ∀ u es, CanE s u es → okb = true ∧ sC s = u ∧ ([] : List Ev) = es from fun u es hc => (hE0 u es hc).elim)
    clear hokb hE0
    have HP3 := HP1
    go_loopw [7, 9] (fun o i wr => o = .bool okb ∧ i = .int .i64 1 ∧ wr = w3) (fun _ _ _ => 0)
    case atStart => exact ⟨rfl, rfl, rfl⟩
    case round =>
      obtain ⟨rfl, rfl, rfl⟩ := hrel
      obtain ⟨E, hE⟩ : ∃ E : List Ev, E = [] := ⟨_, rfl⟩
      rw [← hE] at HP3 HSP
      clear hE
      by_cases hN0 : (1 : Int) < (N : Int) + 1
      · have hlL := HP3.out.row.rd.len
        have HLL := Lib.hid hlL
        clear hlL
        have t0 := HP3.out.t0
        have t1 := HP3.out.t1
        have rdw := HP3.out.row.rd
        cases okb
        · have HB := Lib.hid (pe_no (s := s) (fun u es hc => by have := (HSP.out u es hc).1; cases this))
          have r0 := HP3.out.a0
          have r1 := HP3.out.a1
          have rf0 := HP3.out.af 0
          have rf1 := HP3.out.af 1
          have n0 := HP3.out.b0
          have n1 := HP3.out.b1
          go_wp2
          (try simp only [Exit.inBlock, Exit.then])
          have heq : Ending.returned (.tuple #[.agg #[.int .i64 0, .slice none 0 0], .bool false]) = Ending.returned (.tuple #[.agg #[.int .i64 (peU s), .slice none (peE s).length 0], .bool (peB s)]) := by rw [HB.out.1, HB.out.2.1, HB.out.2.2]; rfl
          have hrn : ∀ W, RowE W w.heap.size none (peE s).length 0 (peE s) [] := by intro W; rw [HB.out.2.2]; exact RowE.nil _ _
          refine bodyPost_ret (v := .tuple #[.agg #[.int .i64 0, .slice none 0 0], .bool false]) (by simp [results, Tryd.results10, go_sem, r0, r1]) rfl ⟨?_, (HP3.out.b.setCell (by simp) _).setCell (by simp) _⟩
          first | exact ⟨none, 0, [], heq, hrn _⟩ | exact ⟨none, 0, heq, [], hrn _⟩
        · cases hr : elB (sC s) E
          · have HB := Lib.hid (pe_no (s := s) (fun u es hc => by
              have h := HSP.out u es hc
              have h2 := hc.1
              rw [← h.2.1, ← h.2.2, hr] at h2
              cases h2))
            have HR := Lib.hid hr
            clear hr
            go_wp2_with (go_at_call 15; refine (c_l14Good _ _ _ _ E [] HR.out _ (by omega) rdw).mono ?_; rintro e w5 ⟨rfl, hb5⟩; have HP5 := Lib.hid (HP3.out.keep hb5); have r0 := HP5.out.a0; have r1 := HP5.out.a1; have rf0 := HP5.out.af 0; have rf1 := HP5.out.af 1; have n0 := HP5.out.b0; have n1 := HP5.out.b1)
            (try simp only [Exit.inBlock, Exit.then])
            have heq : Ending.returned (.tuple #[.agg #[.int .i64 0, .slice none 0 0], .bool false]) = Ending.returned (.tuple #[.agg #[.int .i64 (peU s), .slice none (peE s).length 0], .bool (peB s)]) := by rw [HB.out.1, HB.out.2.1, HB.out.2.2]; rfl
            have hrn : ∀ W, RowE W w.heap.size none (peE s).length 0 (peE s) [] := by intro W; rw [HB.out.2.2]; exact RowE.nil _ _
            refine bodyPost_ret (v := .tuple #[.agg #[.int .i64 0, .slice none 0 0], .bool false]) (by simp [results, Tryd.results10, go_sem, r0, r1]) rfl ⟨?_, (HP5.out.b.setCell (by simp) _).setCell (by simp) _⟩
            first | exact ⟨none, 0, [], heq, hrn _⟩ | exact ⟨none, 0, heq, [], hrn _⟩
          · obtain ⟨⟨u, hu, hu2⟩, h8, hi⟩ := el_facts hr
            have HR := Lib.hid hr
            have HI := Lib.hid hi
            have HU := Lib.hid hu
            rw [HLL.out] at h8
            clear hr hi
            rw [hu] at t0
            clear hu
            have HRu := Lib.hid (show elB (u : Int) E = true by rw [← HU.out]; exact HR.out)
            by_cases he : entsT u E = s
            · have HB := Lib.hid (pe_yes (s := s) (u := u) (es := E) ⟨by rw [← HU.out]; exact HR.out, he⟩)
              have he2 : ((entsT u E).toList == s.toList) = true := by rw [he]; simp
              clear he
              go_wp2_with (first | (go_at_call 15; refine (c_l14Good _ _ _ _ E [] HRu.out _ (by omega) rdw).mono ?_; rintro e w5 ⟨rfl, hb5⟩; have t05 := hb5.cellv t0; have t15 := hb5.cellv t1) | (go_at_call 16; refine (c_l14Text u hu2 _ _ _ E [] h8 HI.out _ (rdw.keep hb5)).mono ?_; rintro e w6 ⟨rfl, hb6⟩; have HP6 := Lib.hid (HP3.out.keep (hb5.trans hb6)); have r0 := HP6.out.a0; have r1 := HP6.out.a1; have rf0 := HP6.out.af 0; have rf1 := HP6.out.af 1; have t06 := hb6.cellv t05; have t16 := hb6.cellv t15))
              (try simp only [Exit.inBlock, Exit.then])
              refine bodyPost_ret (v := .tuple #[.agg #[.int .i64 (u : Int), .slice (some ⟨w2.heap.size, 0, none⟩) 0 0], .bool true]) (by simp [results, Tryd.results10, go_sem, r0, r1]) rfl ⟨⟨(some ⟨w2.heap.size, 0, none⟩), 0, [], by rw [HB.out.1, HB.out.2.1, HB.out.2.2, HLL.out], by rw [HB.out.2.2, HLL.out]; exact (HP6.out.row.off2 (by omega) _ _).mono (by omega)⟩, (HP6.out.b.setCell (by simp) _).setCell (by simp) _⟩
            · have HB := Lib.hid (pe_no (s := s) (fun u' es hc => by
                have h := HSP.out u' es hc
                have e1 : u = u' := by have := HU.out.symm.trans h.2.1; omega
                exact he (by rw [h.2.2, e1]; exact hc.2)))
              have he2 := text_ne he
              clear he
              go_wp2_with (first | (go_at_call 15; refine (c_l14Good _ _ _ _ E [] HRu.out _ (by omega) rdw).mono ?_; rintro e w5 ⟨rfl, hb5⟩; have t05 := hb5.cellv t0; have t15 := hb5.cellv t1) | (go_at_call 16; refine (c_l14Text u hu2 _ _ _ E [] h8 HI.out _ (rdw.keep hb5)).mono ?_; rintro e w6 ⟨rfl, hb6⟩; have HP6 := Lib.hid (HP3.out.keep (hb5.trans hb6)); have r0 := HP6.out.a0; have r1 := HP6.out.a1; have rf0 := HP6.out.af 0; have rf1 := HP6.out.af 1; have n0 := HP6.out.b0; have n1 := HP6.out.b1))
              (try simp only [Exit.inBlock, Exit.then])
              have heq : Ending.returned (.tuple #[.agg #[.int .i64 0, .slice none 0 0], .bool false]) = Ending.returned (.tuple #[.agg #[.int .i64 (peU s), .slice none (peE s).length 0], .bool (peB s)]) := by rw [HB.out.1, HB.out.2.1, HB.out.2.2]; rfl
              have hrn : ∀ W, RowE W w.heap.size none (peE s).length 0 (peE s) [] := by intro W; rw [HB.out.2.2]; exact RowE.nil _ _
              refine bodyPost_ret (v := .tuple #[.agg #[.int .i64 0, .slice none 0 0], .bool false]) (by simp [results, Tryd.results10, go_sem, r0, r1]) rfl ⟨?_, (HP6.out.b.setCell (by simp) _).setCell (by simp) _⟩
              first | exact ⟨none, 0, [], heq, hrn _⟩ | exact ⟨none, 0, heq, [], hrn _⟩
      · have hlL := HP3.out.row.rd.len
        have HLL := Lib.hid hlL
        clear hlL
        have t0 := HP3.out.t0
        have t1 := HP3.out.t1
        have rdw := HP3.out.row.rd
        cases okb
        · have HB := Lib.hid (pe_no (s := s) (fun u es hc => by have := (HSP.out u es hc).1; cases this))
          have r0 := HP3.out.a0
          have r1 := HP3.out.a1
          have rf0 := HP3.out.af 0
          have rf1 := HP3.out.af 1
          have n0 := HP3.out.b0
          have n1 := HP3.out.b1
          go_wp2
          (try simp only [Exit.inBlock, Exit.then])
          have heq : Ending.returned (.tuple #[.agg #[.int .i64 0, .slice none 0 0], .bool false]) = Ending.returned (.tuple #[.agg #[.int .i64 (peU s), .slice none (peE s).length 0], .bool (peB s)]) := by rw [HB.out.1, HB.out.2.1, HB.out.2.2]; rfl
          have hrn : ∀ W, RowE W w.heap.size none (peE s).length 0 (peE s) [] := by intro W; rw [HB.out.2.2]; exact RowE.nil _ _
          refine bodyPost_ret (v := .tuple #[.agg #[.int .i64 0, .slice none 0 0], .bool false]) (by simp [results, Tryd.results10, go_sem, r0, r1]) rfl ⟨?_, (HP3.out.b.setCell (by simp) _).setCell (by simp) _⟩
          first | exact ⟨none, 0, [], heq, hrn _⟩ | exact ⟨none, 0, heq, [], hrn _⟩
        · cases hr : elB (sC s) E
          · have HB := Lib.hid (pe_no (s := s) (fun u es hc => by
              have h := HSP.out u es hc
              have h2 := hc.1
              rw [← h.2.1, ← h.2.2, hr] at h2
              cases h2))
            have HR := Lib.hid hr
            clear hr
            go_wp2_with (go_at_call 15; refine (c_l14Good _ _ _ _ E [] HR.out _ (by omega) rdw).mono ?_; rintro e w5 ⟨rfl, hb5⟩; have HP5 := Lib.hid (HP3.out.keep hb5); have r0 := HP5.out.a0; have r1 := HP5.out.a1; have rf0 := HP5.out.af 0; have rf1 := HP5.out.af 1; have n0 := HP5.out.b0; have n1 := HP5.out.b1)
            (try simp only [Exit.inBlock, Exit.then])
            have heq : Ending.returned (.tuple #[.agg #[.int .i64 0, .slice none 0 0], .bool false]) = Ending.returned (.tuple #[.agg #[.int .i64 (peU s), .slice none (peE s).length 0], .bool (peB s)]) := by rw [HB.out.1, HB.out.2.1, HB.out.2.2]; rfl
            have hrn : ∀ W, RowE W w.heap.size none (peE s).length 0 (peE s) [] := by intro W; rw [HB.out.2.2]; exact RowE.nil _ _
            refine bodyPost_ret (v := .tuple #[.agg #[.int .i64 0, .slice none 0 0], .bool false]) (by simp [results, Tryd.results10, go_sem, r0, r1]) rfl ⟨?_, (HP5.out.b.setCell (by simp) _).setCell (by simp) _⟩
            first | exact ⟨none, 0, [], heq, hrn _⟩ | exact ⟨none, 0, heq, [], hrn _⟩
          · obtain ⟨⟨u, hu, hu2⟩, h8, hi⟩ := el_facts hr
            have HR := Lib.hid hr
            have HI := Lib.hid hi
            have HU := Lib.hid hu
            rw [HLL.out] at h8
            clear hr hi
            rw [hu] at t0
            clear hu
            have HRu := Lib.hid (show elB (u : Int) E = true by rw [← HU.out]; exact HR.out)
            by_cases he : entsT u E = s
            · have HB := Lib.hid (pe_yes (s := s) (u := u) (es := E) ⟨by rw [← HU.out]; exact HR.out, he⟩)
              have he2 : ((entsT u E).toList == s.toList) = true := by rw [he]; simp
              clear he
              go_wp2_with (first | (go_at_call 15; refine (c_l14Good _ _ _ _ E [] HRu.out _ (by omega) rdw).mono ?_; rintro e w5 ⟨rfl, hb5⟩; have t05 := hb5.cellv t0; have t15 := hb5.cellv t1) | (go_at_call 16; refine (c_l14Text u hu2 _ _ _ E [] h8 HI.out _ (rdw.keep hb5)).mono ?_; rintro e w6 ⟨rfl, hb6⟩; have HP6 := Lib.hid (HP3.out.keep (hb5.trans hb6)); have r0 := HP6.out.a0; have r1 := HP6.out.a1; have rf0 := HP6.out.af 0; have rf1 := HP6.out.af 1; have t06 := hb6.cellv t05; have t16 := hb6.cellv t15))
              (try simp only [Exit.inBlock, Exit.then])
              refine bodyPost_ret (v := .tuple #[.agg #[.int .i64 (u : Int), .slice (some ⟨w2.heap.size, 0, none⟩) 0 0], .bool true]) (by simp [results, Tryd.results10, go_sem, r0, r1]) rfl ⟨⟨(some ⟨w2.heap.size, 0, none⟩), 0, [], by rw [HB.out.1, HB.out.2.1, HB.out.2.2, HLL.out], by rw [HB.out.2.2, HLL.out]; exact (HP6.out.row.off2 (by omega) _ _).mono (by omega)⟩, (HP6.out.b.setCell (by simp) _).setCell (by simp) _⟩
            · have HB := Lib.hid (pe_no (s := s) (fun u' es hc => by
                have h := HSP.out u' es hc
                have e1 : u = u' := by have := HU.out.symm.trans h.2.1; omega
                exact he (by rw [h.2.2, e1]; exact hc.2)))
              have he2 := text_ne he
              clear he
              go_wp2_with (first | (go_at_call 15; refine (c_l14Good _ _ _ _ E [] HRu.out _ (by omega) rdw).mono ?_; rintro e w5 ⟨rfl, hb5⟩; have t05 := hb5.cellv t0; have t15 := hb5.cellv t1) | (go_at_call 16; refine (c_l14Text u hu2 _ _ _ E [] h8 HI.out _ (rdw.keep hb5)).mono ?_; rintro e w6 ⟨rfl, hb6⟩; have HP6 := Lib.hid (HP3.out.keep (hb5.trans hb6)); have r0 := HP6.out.a0; have r1 := HP6.out.a1; have rf0 := HP6.out.af 0; have rf1 := HP6.out.af 1; have n0 := HP6.out.b0; have n1 := HP6.out.b1))
              (try simp only [Exit.inBlock, Exit.then])
              have heq : Ending.returned (.tuple #[.agg #[.int .i64 0, .slice none 0 0], .bool false]) = Ending.returned (.tuple #[.agg #[.int .i64 (peU s), .slice none (peE s).length 0], .bool (peB s)]) := by rw [HB.out.1, HB.out.2.1, HB.out.2.2]; rfl
              have hrn : ∀ W, RowE W w.heap.size none (peE s).length 0 (peE s) [] := by intro W; rw [HB.out.2.2]; exact RowE.nil _ _
              refine bodyPost_ret (v := .tuple #[.agg #[.int .i64 0, .slice none 0 0], .bool false]) (by simp [results, Tryd.results10, go_sem, r0, r1]) rfl ⟨?_, (HP6.out.b.setCell (by simp) _).setCell (by simp) _⟩
              first | exact ⟨none, 0, [], heq, hrn _⟩ | exact ⟨none, 0, heq, [], hrn _⟩
end Go.Proofs.YtajfmfeegiicaaaDoor
