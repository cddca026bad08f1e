
/- ParseEntries: the program's side. -/
import Derived.Test.YtajfmfeegiicaaaDoorY4
import Derived.Test.YtajfmfeegiicaaaDoorE5
namespace Go.Proofs.YtajfmfeegiicaaaDoor
open Go.RowKit Go.Shelf
theorem ents_take {f : ByteArray → Ev} {ws : List ByteArray} {k : Nat} (hk : k + 1 < ws.length) : ((ws.drop 1).take (k + 1)).map f = ((ws.drop 1).take k).map f ++ [f (strAt ws (k + 1))] := by
  rw [List.take_succ_eq_append_getElem (by simp; omega), List.map_append, strAt_lt hk]
  simp [Nat.add_comm]
theorem PEnv.kp {w w' : World} (h : PEnv w) (hb : Bw w w') : PEnv w' := h.keep hb
set_option maxRecDepth 100000 in
set_option maxHeartbeats 2000000 in
theorem c_iParseEntries (s : ByteArray) (hs : s.size ≤ 1048576) (w : World) (hp : PEnv w) :
    Calls Tryd.prog 11 #[.string s] w fun e w' => (∃ A c ts, e = .returned (.tuple #[.agg #[.int .i64 (peU s), .slice A (peE s).length c], .bool (peB s)]) ∧ RowE w' w.heap.size A (peE s).length c (peE s) ts) ∧ Bw w w' := by
  have hbx := (Bw.refl w).alloc (.cells #[.int .i64 0, .slice none 0 0] 30)
  have hlen := (spl2_len s).2
  have hpos : 0 < (spl2 s).length := by have := (spl2_len s).1; omega
  have hz0 := spl2_piece s 0 hpos
  go_enter Tryd.func11, Tryd.ntmps11
  go_wp2_with fail
  refine (c_Split2 s hs _ (hp.keep hbx)).mono ?_
  rintro e w1 ⟨⟨A1, c1, rfl, row1⟩, hb1⟩
  have k1 := hbx.trans hb1
  simp only [World.size_alloc] at row1
  obtain ⟨g, rfl, hg0, hg1, _, hc⟩ := row1.strs hpos
  have q0 := hc 0 hpos
  clear hc
  have HC := Lib.hid (fun W hp => c_ParseInt (strAt (spl2 s) 0) (by omega) W hp)
  have HN := Lib.hid (show rdV (strAt (spl2 s) 0) = iC s from rfl)
  have HSP := Lib.hid (fun u es (hc : CanE s u es) => hc.impl)
  have hpi : (0 : Int) < (spl2 s).length := by omega
  generalize strAt (spl2 s) 0 = x0 at *
  go_wp2_with fail
  refine (HC.out _ (hp.keep k1)).mono ?_
  rintro e w2 ⟨rfl, hb2⟩
  rw [HN.out]
  have k2 := k1.trans hb2
  have k02 := hb1.trans hb2
  have r0 := k02.cellv (p := ⟨w.heap.size, 0, none⟩) (v := .int .i64 0) (by go_simp)
  have r1 := k02.cellv (p := ⟨w.heap.size, 1, none⟩) (v := .slice none 0 0) (by go_simp)
  have rf : ∀ j, w2.frozen? ⟨w.heap.size, j, none⟩ = false := fun j => (k02.frz ⟨w.heap.size, j, none⟩ (by simp)).trans (by go_simp)
  cases hok : rdB x0
  · have HB := Lib.hid (pe_no (s := s) (fun u ts hc => by have := (HSP.out u ts hc).1; rw [hok] at this; cases this))
    clear hok
    have rf0 := rf 0
    have rf1 := rf 1
    go_wp2
    (try simp only [Exit.inBlock, Exit.then])
    refine bodyPost_ret (v := .tuple #[.agg #[.int .i64 0, .slice none 0 0], .bool false]) (by simp [results, Tryd.results11, go_sem, r0, r1]) rfl ⟨⟨none, 0, [], by rw [HB.out.1, HB.out.2.1, HB.out.2.2]; rfl, by rw [HB.out.2.2]; exact RowE.nil _ _⟩, (k2.setCell (by simp) _).setCell (by simp) _⟩
  · clear hok
    have kb := (Bw.refl w2).alloc (.cells #[.int .i64 (iC s), .slice none 0 0] 30)
    have hlt : w.heap.size < w2.heap.size := World.block_lt_of_cell? w2 ⟨w.heap.size, 0, none⟩ r0
    have hbb2 := hb2.size
    have P1 : PE w (w2.alloc (.cells #[.int .i64 (iC s), .slice none 0 0] 30)) (w.heap.size + 1) w.heap.size w.heap.size w2.heap.size (iC s) none 0 0 [] [] (some ⟨g, 0, none⟩) (spl2 s).length c1 (spl2 s) :=
      ⟨Nat.le_refl _, by omega, Nat.le_refl _, by omega, by omega, by go_simp, by go_simp, fun j => by go_simp, kb.cellv r0, kb.cellv r1, fun j => (kb.frz ⟨w.heap.size, j, none⟩ hlt).trans (rf j), kb.cellv r0, kb.cellv r1, RowE.nil _ _, fun x hx => (by cases hx), fun k hk => absurd hk (by omega), ((row1.keep hb2).keep kb), fun x hx => (by simp only [Option.some.injEq] at hx; subst hx; dsimp only; omega), fun x y hx => (by cases hx), k2.trans kb⟩
    have hcapw := row1.caps.1
    clear row1 r0 r1 rf kb k02 HC q0 hz0
    have HP1 := Lib.hid P1
    clear P1
    obtain ⟨N, hN⟩ : ∃ N, (spl2 s).length = N + 1 := ⟨(spl2 s).length - 1, by omega⟩
    rw [hN] at HP1 hcapw hlen ⊢
    have HN1 := Lib.hid hN
    clear hN hpos hpi
    by_cases hc1 : c1 = 1
    · subst hc1
      obtain rfl : N = 0 := by omega
      have hT : iE s = [] := by rw [iE, List.drop_eq_nil_of_le (by rw [HN1.out]; omega)]; rfl
      have HP3 := HP1
      rw [← hT] at HP3
      clear hT
      go_wp2_with fail
      generalize w2.alloc (.cells #[.int .i64 (iC s), .slice none 0 0] 30) = w3 at *
      generalize w2.heap.size = T at *
      go_loopw [29] (fun i wr => i = .int .i64 0 ∧ wr = w3) (fun _ _ => 0)
      case atStart => exact ⟨rfl, rfl⟩
      case round =>
        obtain ⟨rfl, rfl⟩ := hrel
        have hlL := HP3.out.row.rd.len
        have HLL := Lib.hid hlL
        have hcap := HP3.out.row.row.caps.1
        clear hlL
        have t0 := HP3.out.t0
        have t1 := HP3.out.t1
        have rdw := HP3.out.row.rd
        cases hr : elB (iC s) (iE s)
        · have HB := Lib.hid (pe_no (s := s) (fun u es hc => by
            have h := hc.impl
            have h2 := hc.1
            rw [← h.2.1, ← h.2.2.1, hr] at h2
            cases h2))
          have HR := Lib.hid hr
          clear hr
          go_wp2_with (go_at_call 18; refine (c_IsValidElement _ _ _ _ (iE s) [] HR.out _ (by omega) hcap rdw).mono ?_; rintro e w5 ⟨rfl, hb5⟩; have HP5 := Lib.hid (HP3.out.keep hb5); have r0 := HP5.out.a0; have r1 := HP5.out.a1; have rf0 := HP5.out.af 0; have rf1 := HP5.out.af 1)
          (try simp only [Exit.inBlock, Exit.then])
          refine bodyPost_ret (v := .tuple #[.agg #[.int .i64 0, .slice none 0 0], .bool false]) (by simp [results, Tryd.results11, go_sem, r0, r1]) rfl ⟨⟨none, 0, [], by rw [HB.out.1, HB.out.2.1, HB.out.2.2]; rfl, by rw [HB.out.2.2]; exact RowE.nil _ _⟩, (HP5.out.b.setCell (by simp) _).setCell (by simp) _⟩
        · obtain ⟨⟨u, hu, hu2⟩, h8, hi⟩ := el_facts hr
          have HR := Lib.hid hr
          have HI := Lib.hid hi
          have HU := Lib.hid hu
          rw [HLL.out] at h8
          clear hr hi
          rw [hu] at t0
          clear hu
          have HRu := Lib.hid (show elB (u : Int) (iE s) = true by rw [← HU.out]; exact HR.out)
          by_cases he : entsT u (iE s) = s
          · have HB := Lib.hid (pe_yes (s := s) (u := u) (es := iE s) ⟨by rw [← HU.out]; exact HR.out, he⟩)
            have he2 : ((entsT u (iE s)).toList == s.toList) = true := by rw [he]; simp
            clear he
            go_wp2_with (first | (go_at_call 18; refine (c_IsValidElement _ _ _ _ (iE s) [] HRu.out _ (by omega) hcap rdw).mono ?_; rintro e w5 ⟨rfl, hb5⟩; have t05 := hb5.cellv t0; have t15 := hb5.cellv t1) | (go_at_call 19; refine (c_entriesText u hu2 _ _ _ (iE s) [] h8 HI.out _ (hp.tab.keep (HP3.out.b.trans hb5)) (rdw.keep hb5)).mono ?_; rintro e w6 ⟨rfl, hb6⟩; have HP6 := Lib.hid (HP3.out.keep (hb5.trans hb6)); have r0 := HP6.out.a0; have r1 := HP6.out.a1; have rf0 := HP6.out.af 0; have rf1 := HP6.out.af 1; have t06 := hb6.cellv t05; have t16 := hb6.cellv t15))
            (try simp only [Exit.inBlock, Exit.then])
            refine bodyPost_ret (v := .tuple #[.agg #[.int .i64 (u : Int), .slice none 0 0], .bool true]) (by simp [results, Tryd.results11, go_sem, r0, r1]) rfl ⟨⟨none, 0, [], by rw [HB.out.1, HB.out.2.1, HB.out.2.2, HLL.out], by rw [HB.out.2.2, HLL.out]; exact (HP6.out.row.off2 (by omega) _ _).mono (by omega)⟩, (HP6.out.b.setCell (by simp) _).setCell (by simp) _⟩
          · have HB := Lib.hid (pe_no (s := s) (fun u' es hc => by
              have h := hc.impl
              have e1 : u = u' := by have := HU.out.symm.trans h.2.1; omega
              exact he (by rw [h.2.2.1, e1]; exact hc.2)))
            have he2 := text_ne he
            clear he
            go_wp2_with (first | (go_at_call 18; refine (c_IsValidElement _ _ _ _ (iE s) [] HRu.out _ (by omega) hcap rdw).mono ?_; rintro e w5 ⟨rfl, hb5⟩; have t05 := hb5.cellv t0; have t15 := hb5.cellv t1) | (go_at_call 19; refine (c_entriesText u hu2 _ _ _ (iE s) [] h8 HI.out _ (hp.tab.keep (HP3.out.b.trans hb5)) (rdw.keep hb5)).mono ?_; rintro e w6 ⟨rfl, hb6⟩; have HP6 := Lib.hid (HP3.out.keep (hb5.trans hb6)); have r0 := HP6.out.a0; have r1 := HP6.out.a1; have rf0 := HP6.out.af 0; have rf1 := HP6.out.af 1))
            (try simp only [Exit.inBlock, Exit.then])
            refine bodyPost_ret (v := .tuple #[.agg #[.int .i64 0, .slice none 0 0], .bool false]) (by simp [results, Tryd.results11, go_sem, r0, r1]) rfl ⟨⟨none, 0, [], by rw [HB.out.1, HB.out.2.1, HB.out.2.2]; rfl, by rw [HB.out.2.2]; exact RowE.nil _ _⟩, (HP6.out.b.setCell (by simp) _).setCell (by simp) _⟩
    · have c2 : 1 < c1 := by omega
      have c3 : ¬ c1 - 1 = 0 := by omega
      go_wp2_with fail
      generalize w2.alloc (.cells #[.int .i64 (iC s), .slice none 0 0] 30) = w3 at *
      generalize w2.heap.size = T at *
      go_loopw [29] (fun i wr => ∃ k : Nat, ∃ A' c' ts, k ≤ N ∧ i = .int .i64 k ∧ PE w wr (w.heap.size + 1) w.heap.size w.heap.size T (iC s) A' k c' ((((spl2 s).drop 1).take k).map iV) ts (some ⟨g, 0, none⟩) (N + 1) c1 (spl2 s)) (fun i _ => N - (intOf i).toNat)
      case atStart => exact ⟨0, _, _, _, Nat.zero_le _, rfl, HP1.out⟩
      case round =>
        obtain ⟨k, A', c', ts, hk, rfl, hP⟩ := hrel
        have HP2 := Lib.hid hP
        have hs4 : w.heap.size < wr.heap.size := World.block_lt_of_cell? wr ⟨w.heap.size, 0, none⟩ hP.a0
        have hT4 : T < wr.heap.size := World.block_lt_of_cell? wr ⟨T, 0, none⟩ hP.t0
        clear hP
        by_cases hltk : k < N
        · have hsz := spl2_piece s (k + 1) (by rw [HN1.out]; omega)
          obtain ⟨g', hg', _, _, _, hc⟩ := HP2.out.wrow.strs (by omega)
          obtain rfl : g = g' := by simpa using hg'
          have q0 := hc (k + 1) (by omega)
          have q1 : wr.cell? ⟨g, 1 + k, none⟩ = some (.string (strAt (spl2 s) (k + 1))) := by rw [Nat.add_comm 1 k]; exact q0
          clear hc hg'
          have HD := Lib.hid (ents_take (f := iV) (ws := spl2 s) (k := k) (by rw [HN1.out]; omega))
          have HX := Lib.hid (fun u es (hc : CanE s u es) => hc.impl.2.2.2 k (by rw [HN1.out]; omega))
          generalize strAt (spl2 s) (k + 1) = x at q0 q1 HD hsz HX
          have HCE := Lib.hid (c_parseEntry x (by omega) wr (hp.keep HP2.out.b))
          cases hib : iB x
          · have HB := Lib.hid (pe_no (s := s) (fun u ts hc => by have := HX.out u ts hc; rw [hib] at this; cases this))
            have HV0 := Lib.hid (iV0_no hib)
            rw [hib] at HCE
            clear hib
            generalize iV0 x = v at *
            go_wp2_with (go_at_call 25; refine HCE.out.mono ?_; rintro e w4 ⟨⟨F, cF, rfl, rowF⟩, hb4⟩; have HP4 := Lib.hid (HP2.out.keep (hb4.alloc (.cells #[.int .i64 v.num, .slice F v.fs.length cF, .int .i64 v.unt] 49))); have s0 := HP4.out.a0; have s1 := HP4.out.a1; have sf0 := HP4.out.af 0; have sf1 := HP4.out.af 1)
            (try simp only [Exit.inBlock, Exit.then])
            refine bodyPost_ret (v := .tuple #[.agg #[.int .i64 0, .slice none 0 0], .bool false]) (by simp [results, Tryd.results11, go_sem, s0, s1]) rfl ⟨⟨none, 0, [], by rw [HB.out.1, HB.out.2.1, HB.out.2.2]; rfl, by rw [HB.out.2.2]; exact RowE.nil _ _⟩, (HP4.out.b.setCell (by simp) _).setCell (by simp) _⟩
          · have HV0 := Lib.hid (show iV0 x = iV x by rw [iV0, if_pos hib])
            rw [hib, HV0.out] at HCE
            clear hib
            generalize iV x = v at *
            go_wp2_with (first | (go_at_call 25; refine HCE.out.mono ?_; rintro e w4 ⟨⟨F, cF, rfl, rowF⟩, hb4⟩; have HP4 := Lib.hid (HP2.out.keep (hb4.alloc (.cells #[.int .i64 v.num, .slice F v.fs.length cF, .int .i64 v.unt] 49))); have s1 := HP4.out.t1; have hrow4 := HP4.out.row.row; have hls4 := hb4.size) | (at_builtin; refine append_ent rfl _ _ rfl _ _ _ _ rfl hrow4 _ _ _ _ _ v.fs _ rfl ?_ ?_ ?_ ?_; (first | rfl | simp); omega; (simp only [World.size_alloc]; omega); intro A2 c2 w5 row5 hg5 hmv5; have HQ := Lib.hid (HP4.out.push (v := v) ((rowF.mono (by omega)).keep ((Bw.refl _).alloc _)) (fun x y hx hy => by have h1 := (rowF.lt x hx).1; have h2 := (HP2.out.row.row.lt y hy).2; omega) (fun j hj x y hx hy => by have h1 := (rowF.lt x hx).1; have h2 := (HP2.out.row.flt hj hy).2; omega) (fun x hx => by have h1 := (rowF.lt x hx).1; omega) row5 hg5 hmv5); have t5 := HQ.out.2.1; have f5 := HQ.out.2.2 1))
            all_goals
              go_roundw
              case rel => exact ⟨k + 1, A2, c2, _, by omega, by go_num, by rw [HD.out]; exact HQ.out.1⟩
              case measure => simp [intOf]; omega
        · obtain rfl : k = N := by omega
          have hT : (((spl2 s).drop 1).take k).map iV = iE s := by rw [List.take_of_length_le (by rw [List.length_drop, HN1.out]; omega)]; rfl
          rw [hT] at HP2
          have HP3 := HP2
          clear hT
          have hlL := HP3.out.row.rd.len
          have HLL := Lib.hid hlL
          have hcap := HP3.out.row.row.caps.1
          clear hlL
          have t0 := HP3.out.t0
          have t1 := HP3.out.t1
          have rdw := HP3.out.row.rd
          cases hr : elB (iC s) (iE s)
          · have HB := Lib.hid (pe_no (s := s) (fun u es hc => by
              have h := hc.impl
              have h2 := hc.1
              rw [← h.2.1, ← h.2.2.1, hr] at h2
              cases h2))
            have HR := Lib.hid hr
            clear hr
            go_wp2_with (go_at_call 18; refine (c_IsValidElement _ _ _ _ (iE s) ts HR.out _ (by omega) hcap rdw).mono ?_; rintro e w5 ⟨rfl, hb5⟩; have HP5 := Lib.hid (HP3.out.keep hb5); have r0 := HP5.out.a0; have r1 := HP5.out.a1; have rf0 := HP5.out.af 0; have rf1 := HP5.out.af 1)
            (try simp only [Exit.inBlock, Exit.then])
            refine bodyPost_ret (v := .tuple #[.agg #[.int .i64 0, .slice none 0 0], .bool false]) (by simp [results, Tryd.results11, go_sem, r0, r1]) rfl ⟨⟨none, 0, [], by rw [HB.out.1, HB.out.2.1, HB.out.2.2]; rfl, by rw [HB.out.2.2]; exact RowE.nil _ _⟩, (HP5.out.b.setCell (by simp) _).setCell (by simp) _⟩
          · obtain ⟨⟨u, hu, hu2⟩, h8, hi⟩ := el_facts hr
            have HR := Lib.hid hr
            have HI := Lib.hid hi
            have HU := Lib.hid hu
            rw [HLL.out] at h8
            clear hr hi
            rw [hu] at t0
            clear hu
            have HRu := Lib.hid (show elB (u : Int) (iE s) = true by rw [← HU.out]; exact HR.out)
            by_cases he : entsT u (iE s) = s
            · have HB := Lib.hid (pe_yes (s := s) (u := u) (es := iE s) ⟨by rw [← HU.out]; exact HR.out, he⟩)
              have he2 : ((entsT u (iE s)).toList == s.toList) = true := by rw [he]; simp
              clear he
              go_wp2_with (first | (go_at_call 18; refine (c_IsValidElement _ _ _ _ (iE s) ts HRu.out _ (by omega) hcap rdw).mono ?_; rintro e w5 ⟨rfl, hb5⟩; have t05 := hb5.cellv t0; have t15 := hb5.cellv t1) | (go_at_call 19; refine (c_entriesText u hu2 _ _ _ (iE s) ts h8 HI.out _ (hp.tab.keep (HP3.out.b.trans hb5)) (rdw.keep hb5)).mono ?_; rintro e w6 ⟨rfl, hb6⟩; have HP6 := Lib.hid (HP3.out.keep (hb5.trans hb6)); have r0 := HP6.out.a0; have r1 := HP6.out.a1; have rf0 := HP6.out.af 0; have rf1 := HP6.out.af 1; have t06 := hb6.cellv t05; have t16 := hb6.cellv t15))
              (try simp only [Exit.inBlock, Exit.then])
              refine bodyPost_ret (v := .tuple #[.agg #[.int .i64 (u : Int), .slice A' k c'], .bool true]) (by simp [results, Tryd.results11, go_sem, r0, r1]) rfl ⟨⟨A', c', ts, by rw [HB.out.1, HB.out.2.1, HB.out.2.2, HLL.out], by rw [HB.out.2.2, HLL.out]; exact (HP6.out.row.off2 (by omega) _ _).mono (by omega)⟩, (HP6.out.b.setCell (by simp) _).setCell (by simp) _⟩
            · have HB := Lib.hid (pe_no (s := s) (fun u' es hc => by
                have h := hc.impl
                have e1 : u = u' := by have := HU.out.symm.trans h.2.1; omega
                exact he (by rw [h.2.2.1, e1]; exact hc.2)))
              have he2 := text_ne he
              clear he
              go_wp2_with (first | (go_at_call 18; refine (c_IsValidElement _ _ _ _ (iE s) ts HRu.out _ (by omega) hcap rdw).mono ?_; rintro e w5 ⟨rfl, hb5⟩; have t05 := hb5.cellv t0; have t15 := hb5.cellv t1) | (go_at_call 19; refine (c_entriesText u hu2 _ _ _ (iE s) ts h8 HI.out _ (hp.tab.keep (HP3.out.b.trans hb5)) (rdw.keep hb5)).mono ?_; rintro e w6 ⟨rfl, hb6⟩; have HP6 := Lib.hid (HP3.out.keep (hb5.trans hb6)); have r0 := HP6.out.a0; have r1 := HP6.out.a1; have rf0 := HP6.out.af 0; have rf1 := HP6.out.af 1))
              (try simp only [Exit.inBlock, Exit.then])
              refine bodyPost_ret (v := .tuple #[.agg #[.int .i64 0, .slice none 0 0], .bool false]) (by simp [results, Tryd.results11, go_sem, r0, r1]) rfl ⟨⟨none, 0, [], by rw [HB.out.1, HB.out.2.1, HB.out.2.2]; rfl, by rw [HB.out.2.2]; exact RowE.nil _ _⟩, (HP6.out.b.setCell (by simp) _).setCell (by simp) _⟩
end Go.Proofs.YtajfmfeegiicaaaDoor
