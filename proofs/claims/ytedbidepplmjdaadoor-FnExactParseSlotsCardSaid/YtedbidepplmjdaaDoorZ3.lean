
/- ParseSlots: the program's side. -/
import Derived.Test.YtedbidepplmjdaaDoorZ2
import Derived.Test.YtedbidepplmjdaaDoorW3
namespace Go.Proofs.YtedbidepplmjdaaDoor
open Go.RowKit Go.Shelf
theorem splL_piece (b : UInt8) : ∀ (l : List UInt8) (x : List UInt8), x ∈ splL b l → x.length ≤ l.length
  | [], x, h => by simp [splL] at h; subst h; simp
  | c :: l, x, h => by
    rw [splL] at h
    split at h
    · rcases List.mem_cons.1 h with rfl | h
      · simp
      · have := splL_piece b l x h; simp; omega
    · split at h
      · simp at h; subst h; simp
      · rename_i y r hy
        rcases List.mem_cons.1 h with rfl | h
        · have := splL_piece b l y (by rw [hy]; simp); simp; omega
        · have := splL_piece b l x (by rw [hy]; simp [h]); simp; omega
theorem splB_piece (b : UInt8) (s : ByteArray) (k : Nat) (hk : k < (splB b s).length) : (strAt (splB b s) k).size ≤ s.size := by
  rw [strAt_lt hk]
  have hm := List.getElem_mem hk
  obtain ⟨x, hx, he⟩ := List.mem_map.1 hm
  have := splL_piece b _ x hx
  have e : (mkB x).size = x.length := by simp [mkB, ByteArray.size]
  rw [← he, e]
  simpa using this
theorem splB_pos (b : UInt8) (s : ByteArray) : 1 ≤ (splB b s).length := by
  have := splL_ne b s.data.toList
  cases h : splL b s.data.toList with
  | nil => exact absurd h this
  | cons x r => simp [splB, h]
theorem cut_size (s : ByteArray) : (cutA s).size ≤ s.size ∧ (cutR s).size ≤ s.size := by
  have e : ∀ l, (mkB l).size = l.length := fun l => by simp [mkB, ByteArray.size]
  have hl : s.data.toList.length = s.size := by simp
  unfold cutA cutR Lib.cut
  split
  · rw [e, e]; simp; omega
  · rw [e, e]; simp
theorem slotOf_size (x : ByteArray) : (slotOf x).item.size ≤ x.size := by
  unfold slotOf
  split
  · exact Nat.zero_le _
  · split
    · exact Nat.zero_le _
    · exact Nat.le_refl _
theorem fit_of {b : UInt8} {s : ByteArray} (hs : s.size ≤ 1048576) : fitL (((splB b s).drop 1).map slotOf) := by
  intro k hk
  rw [slotAt_lt hk]
  have hk2 : k + 1 < (splB b s).length := by simp at hk; omega
  simp only [List.getElem_map, List.getElem_drop]
  have h1 := slotOf_size ((splB b s)[1 + k]'(by omega))
  have h2 := splB_piece b s (1 + k) (by omega)
  rw [strAt_lt (by omega)] at h2
  unfold maxLen
  omega
theorem slots_take {ws : List ByteArray} {k : Nat} (hk : k + 1 < ws.length) : ((ws.drop 1).take (k + 1)).map slotOf = ((ws.drop 1).take k).map slotOf ++ [slotOf (strAt ws (k + 1))] := by
  rw [List.take_succ_eq_append_getElem (by simp; omega), List.map_append, strAt_lt hk]
  simp [Nat.add_comm]
theorem toList_ne {a b : ByteArray} (h : ¬ a = b) : (a.toList == b.toList) = false := text_ne h
set_option maxRecDepth 100000 in
set_option maxHeartbeats 2000000 in
theorem c_iParseSlots (s : ByteArray) (hs : s.size ≤ 1048576) (w : World) (hp : PEnv w) :
    Calls Tryd.prog 11 #[.string s] w fun e w' => (∃ A c, e = .returned (.tuple #[.agg #[.int .i64 (psU s), .slice A (psT s).length c], .bool (psB s)]) ∧ Row w' w.heap.size 48 2 Slot.cells A (psT s).length c (psT s)) ∧ Bw w w' := by
  have ⟨hsA, hsR⟩ := cut_size s
  have hbx := (Bw.refl w).alloc (.cells #[.int .i64 0, .slice none 0 0] 30)
  go_enter Tryd.func11, Tryd.ntmps11
  go_wp2_with fail
  refine (c_Cut s hs _ (hp.keep hbx)).mono ?_
  rintro e w1 ⟨⟨b, rfl⟩, hb1⟩
  have k1 := hbx.trans hb1
  go_wp2_with fail
  refine (c_ParseInt (cutA s) (by omega) _ (hp.keep k1)).mono ?_
  rintro e w2 ⟨rfl, hb2⟩
  have k2 := k1.trans hb2
  have k02 := hb1.trans hb2
  have r0 := k02.cellv (p := ⟨w.heap.size, 0, none⟩) (v := .int .i64 0) (by go_simp)
  have r1 := k02.cellv (p := ⟨w.heap.size, 1, none⟩) (v := .slice none 0 0) (by go_simp)
  have rf : ∀ j, w2.frozen? ⟨w.heap.size, j, none⟩ = false := fun j => (k02.frz ⟨w.heap.size, j, none⟩ (by simp)).trans (by go_simp)
  have HN := Lib.hid (show rdV (cutA s) = iN s from rfl)
  rw [HN.out]
  cases hok : rdB (cutA s)
  · have HB := Lib.hid (ps_no (s := s) (fun u ts hc => by have := hc.impl.1; rw [hok] at this; cases this))
    clear hok
    have rf0 := rf 0
    have rf1 := rf 1
    go_wp2
    (try simp only [Exit.inBlock, Exit.then])
    refine bodyPost_ret (v := .tuple #[.agg #[.int .i64 0, .slice none 0 0], .bool false]) (by simp [results, Tryd.results11, go_sem, r0, r1]) rfl ⟨⟨none, 0, by rw [HB.out.1, HB.out.2.1, HB.out.2.2]; rfl, by rw [HB.out.2.2]; exact Row.nil _ _ _ _ _⟩, (k2.setCell (by simp) _).setCell (by simp) _⟩
  · have HOK := Lib.hid hok
    clear hok
    have kb := (Bw.refl w2).alloc (.cells #[.int .i64 (iN s), .slice none 0 0] 30)
    have hlt : w.heap.size < w2.heap.size := World.block_lt_of_cell? w2 ⟨w.heap.size, 0, none⟩ r0
    go_wp2_with fail
    refine (c_Split (cutR s) 32 (by omega) _ (hp.keep (k2.trans kb))).mono ?_
    rintro e w3 ⟨⟨A1, c1, rfl, row1⟩, hb3⟩
    have k23 := kb.trans hb3
    simp only [World.size_alloc] at row1
    have P1 : PS w w3 w2.heap.size (iN s) A1 (splB 32 (cutR s)).length c1 (splB 32 (cutR s)) none 0 0 [] :=
      ⟨hlt, hb3.cellv (by go_simp), hb3.cellv (by go_simp), fun j => (hb3.frz ⟨w2.heap.size, j, none⟩ (by simp)).trans (by go_simp), k23.cellv r0, k23.cellv r1, fun j => (k23.frz ⟨w.heap.size, j, none⟩ hlt).trans (rf j), Row.nil _ _ _ _ _, fun x hx => (by cases hx), row1.mono (by omega), fun x hx => by (have := (row1.lt x hx).1; omega), fun x y hx => (by cases hx), k2.trans k23⟩
    have hpos := splB_pos 32 (cutR s)
    have hlen := splB_len 32 (cutR s)
    obtain ⟨g, rfl, _, _, _, _⟩ := row1.strs (by omega)
    have hcap := row1.caps.1
    clear row1 hb3 r0 r1 rf kb k23
    have HP1 := Lib.hid P1
    clear P1
    obtain ⟨N, hN⟩ : ∃ N, (splB 32 (cutR s)).length = N + 1 := ⟨(splB 32 (cutR s)).length - 1, by omega⟩
    rw [hN] at HP1 hcap hlen ⊢
    have HN1 := Lib.hid hN
    clear hN hpos
    generalize w2.heap.size = T at *
    by_cases hc1 : c1 = 1
    · subst hc1
      obtain rfl : N = 0 := by omega
      have hT : iT s = [] := by rw [iT, List.drop_eq_nil_of_le (by rw [HN1.out]; omega)]; rfl
      have HP3 := HP1
      rw [← hT] at HP3
      clear hT
      go_wp2_with fail
      go_loopw [32] (fun i wr => i = .int .i64 0 ∧ wr = w3) (fun _ _ => 0)
      case atStart => exact ⟨rfl, rfl⟩
      case round =>
        obtain ⟨rfl, rfl⟩ := hrel
        have hlL := HP3.out.row.len
        have HLL := Lib.hid hlL
        clear hlL
        have t0 := HP3.out.t0
        have t1 := HP3.out.t1
        have rdw := HP3.out.row.rd (fun _ => rfl)
        have HFIT := Lib.hid (show fitL (iT s) from fit_of (b := 32) (s := cutR s) (by omega))
        cases hr : rwB (iN s) (iT s)
        · have HB := Lib.hid (ps_no (s := s) (fun u ts hc => by
            have h := hc.impl
            have h2 := hc.1
            rw [← h.2.1, ← h.2.2, hr] at h2
            cases h2))
          have HR := Lib.hid hr
          clear hr
          go_wp2_with (go_at_call 18; refine (c_IsValidReceiveWindow _ _ _ _ (iT s) HFIT.out HR.out _ (by omega) rdw).mono ?_; rintro e w5 ⟨rfl, hb5⟩; have HP5 := Lib.hid (HP3.out.keep hb5); have r0 := HP5.out.r0; have r1 := HP5.out.r1; have rf0 := HP5.out.rf 0; have rf1 := HP5.out.rf 1)
          (try simp only [Exit.inBlock, Exit.then])
          refine bodyPost_ret (v := .tuple #[.agg #[.int .i64 0, .slice none 0 0], .bool false]) (by simp [results, Tryd.results11, go_sem, r0, r1]) rfl ⟨⟨none, 0, by rw [HB.out.1, HB.out.2.1, HB.out.2.2]; rfl, by rw [HB.out.2.2]; exact Row.nil _ _ _ _ _⟩, (HP5.out.b.setCell (by simp) _).setCell (by simp) _⟩
        · obtain ⟨⟨u, hu, hu2⟩, h8, hi⟩ := rw_facts hr
          have HR := Lib.hid hr
          have HI := Lib.hid hi
          have HU := Lib.hid hu
          rw [HLL.out] at h8
          clear hr hi
          rw [hu] at t0
          clear hu
          have HRu := Lib.hid (show rwB (u : Int) (iT s) = true by rw [← HU.out]; exact HR.out)
          by_cases he : slotsT u (iT s) = s
          · have HB := Lib.hid (ps_yes (s := s) (u := u) (ts := iT s) ⟨by rw [← HU.out]; exact HR.out, he⟩)
            have he2 : ((slotsT u (iT s)).toList == s.toList) = true := by rw [he]; simp
            clear he
            go_wp2_with (first | (go_at_call 18; refine (c_IsValidReceiveWindow _ _ _ _ (iT s) HFIT.out HRu.out _ (by omega) rdw).mono ?_; rintro e w5 ⟨rfl, hb5⟩; have t05 := hb5.cellv t0; have t15 := hb5.cellv t1) | (go_at_call 19; refine (c_slotsText u hu2 _ _ _ (iT s) HI.out _ (hp.tab.keep (HP3.out.b.trans hb5)) (by omega) (rdw.keep hb5)).mono ?_; rintro e w6 ⟨rfl, hb6⟩; have HP6 := Lib.hid (HP3.out.keep (hb5.trans hb6)); have r0 := HP6.out.r0; have r1 := HP6.out.r1; have rf0 := HP6.out.rf 0; have rf1 := HP6.out.rf 1; have t06 := hb6.cellv t05; have t16 := hb6.cellv t15))
            (try simp only [Exit.inBlock, Exit.then])
            have ga := gset w6 ⟨w.heap.size, 0, none⟩ (.int .i64 (u : Int))
            have gb := gset (w6.setCell ⟨w.heap.size, 0, none⟩ (.int .i64 (u : Int))) ⟨w.heap.size, 1, none⟩ (.slice none 0 0)
            have hne : ∀ x : Addr, (none : Option Addr) = some x → some w.heap.size ≠ some x.block := fun x hx he => by have := (HP6.out.row.lt x hx).1; have := Option.some.inj he; omega
            refine bodyPost_ret (v := .tuple #[.agg #[.int .i64 (u : Int), .slice none 0 0], .bool true]) (by simp [results, Tryd.results11, go_sem, r0, r1]) rfl ⟨⟨none, 0, by rw [HB.out.1, HB.out.2.1, HB.out.2.2, HLL.out], by rw [HB.out.2.2, HLL.out]; exact ((HP6.out.row.grown ga hne).grown gb hne).mono (by omega)⟩, (HP6.out.b.setCell (by simp) _).setCell (by simp) _⟩
          · have HB := Lib.hid (ps_no (s := s) (fun u' ts hc => by
              have h := hc.impl
              have e1 : u = u' := by have := HU.out.symm.trans h.2.1; omega
              exact he (by rw [h.2.2, e1]; exact hc.2)))
            have he2 := text_ne he
            clear he
            go_wp2_with (first | (go_at_call 18; refine (c_IsValidReceiveWindow _ _ _ _ (iT s) HFIT.out HRu.out _ (by omega) rdw).mono ?_; rintro e w5 ⟨rfl, hb5⟩; have t05 := hb5.cellv t0; have t15 := hb5.cellv t1) | (go_at_call 19; refine (c_slotsText u hu2 _ _ _ (iT s) HI.out _ (hp.tab.keep (HP3.out.b.trans hb5)) (by omega) (rdw.keep hb5)).mono ?_; rintro e w6 ⟨rfl, hb6⟩; have HP6 := Lib.hid (HP3.out.keep (hb5.trans hb6)); have r0 := HP6.out.r0; have r1 := HP6.out.r1; have rf0 := HP6.out.rf 0; have rf1 := HP6.out.rf 1))
            (try simp only [Exit.inBlock, Exit.then])
            refine bodyPost_ret (v := .tuple #[.agg #[.int .i64 0, .slice none 0 0], .bool false]) (by simp [results, Tryd.results11, go_sem, r0, r1]) rfl ⟨⟨none, 0, by rw [HB.out.1, HB.out.2.1, HB.out.2.2]; rfl, by rw [HB.out.2.2]; exact Row.nil _ _ _ _ _⟩, (HP6.out.b.setCell (by simp) _).setCell (by simp) _⟩
    · have c2 : 1 < c1 := by omega
      have c3 : ¬ c1 - 1 = 0 := by omega
      go_wp2_with fail
      go_loopw [32] (fun i wr => ∃ k : Nat, ∃ A' c', k ≤ N ∧ i = .int .i64 k ∧ PS w wr T (iN s) (some ⟨g, 0, none⟩) (N + 1) c1 (splB 32 (cutR s)) A' k c' ((((splB 32 (cutR s)).drop 1).take k).map slotOf)) (fun i _ => N - (intOf i).toNat)
      case atStart => exact ⟨0, _, _, Nat.zero_le _, rfl, HP1.out⟩
      case round =>
        obtain ⟨k, A', c', hk, rfl, hP⟩ := hrel
        have HP2 := Lib.hid hP
        have t1 := hP.t1
        have f1 := hP.tf 1
        have row2 := hP.row
        have hs4 := World.block_lt_of_cell? _ _ hP.r0
        dsimp only at hs4
        clear hP
        by_cases hltk : k < N
        · have hsz := splB_piece 32 (cutR s) (k + 1) (by rw [HN1.out]; omega)
          obtain ⟨g', hg', _, _, _, hc⟩ := HP2.out.wrow.strs (by omega)
          obtain rfl : g = g' := by simpa using hg'
          have q0 := hc (k + 1) (by omega)
          have q1 : wr.cell? ⟨g, 1 + k, none⟩ = some (.string (strAt (splB 32 (cutR s)) (k + 1))) := by rw [Nat.add_comm 1 k]; exact q0
          clear hc hg'
          have HD := Lib.hid (slots_take (ws := splB 32 (cutR s)) (k := k) (by rw [HN1.out]; omega))
          generalize strAt (splB 32 (cutR s)) (k + 1) = x at q0 q1 HD hsz
          by_cases h63 : x = ⟨#[63]⟩
          · subst h63
            have HSO := Lib.hid (show slotOf ⟨#[63]⟩ = ⟨false, ⟨#[]⟩⟩ by simp [slotOf])
            go_wp2_with (at_builtin; refine append_slot rfl _ _ rfl _ _ _ _ rfl row2 _ _ _ rfl rfl ?_ ?_ ?_; omega; exact hs4; intro A2 c2 w4 row4 hg4 hmv4; have hpush := Lib.hid (HP2.out.push row4 hg4 hmv4); have t2 := hpush.out.2.1; have f2 := hpush.out.2.2 1)
            all_goals
              go_roundw
              case rel => exact ⟨k + 1, A2, c2, by omega, by go_num, by rw [HD.out, HSO.out]; exact hpush.out.1⟩
              case measure => simp [intOf]; omega
          · have e63 := text_ne h63
            have e63b : (x.toList == [63]) = false := by rw [← e63]; congr 1; rw [Lib.toList_data]
            by_cases h46 : x = ⟨#[46]⟩
            · subst h46
              have HSO := Lib.hid (show slotOf ⟨#[46]⟩ = ⟨true, ⟨#[]⟩⟩ by simp [slotOf])
              go_wp2_with (at_builtin; refine append_slot rfl _ _ rfl _ _ _ _ rfl row2 _ _ _ rfl rfl ?_ ?_ ?_; omega; exact hs4; intro A2 c2 w4 row4 hg4 hmv4; have hpush := Lib.hid (HP2.out.push row4 hg4 hmv4); have t2 := hpush.out.2.1; have f2 := hpush.out.2.2 1)
              all_goals
                go_roundw
                case rel => exact ⟨k + 1, A2, c2, by omega, by go_num, by rw [HD.out, HSO.out]; exact hpush.out.1⟩
                case measure => simp [intOf]; omega
            · have e46 := text_ne h46
              have e46b : (x.toList == [46]) = false := by rw [← e46]; congr 1; rw [Lib.toList_data]
              have HSO := Lib.hid (show slotOf x = ⟨true, x⟩ by simp [slotOf, h63, h46])
              clear h63 h46
              go_wp2_with (at_builtin; refine append_slot rfl _ _ rfl _ _ _ _ rfl row2 _ _ _ rfl rfl ?_ ?_ ?_; omega; exact hs4; intro A2 c2 w4 row4 hg4 hmv4; have hpush := Lib.hid (HP2.out.push row4 hg4 hmv4); have t2 := hpush.out.2.1; have f2 := hpush.out.2.2 1)
              all_goals
                go_roundw
                case rel => exact ⟨k + 1, A2, c2, by omega, by go_num, by rw [HD.out, HSO.out]; exact hpush.out.1⟩
                case measure => simp [intOf]; omega
        · obtain rfl : k = N := by omega
          have hT : (((splB 32 (cutR s)).drop 1).take k).map slotOf = iT s := by rw [List.take_of_length_le (by rw [List.length_drop, HN1.out]; omega)]; rfl
          rw [hT] at HP2
          have HP3 := HP2
          clear hT row2 t1
          have hlL := HP3.out.row.len
          have HLL := Lib.hid hlL
          clear hlL
          have t0 := HP3.out.t0
          have t1 := HP3.out.t1
          have rdw := HP3.out.row.rd (fun _ => rfl)
          have HFIT := Lib.hid (show fitL (iT s) from fit_of (b := 32) (s := cutR s) (by omega))
          cases hr : rwB (iN s) (iT s)
          · have HB := Lib.hid (ps_no (s := s) (fun u ts hc => by
              have h := hc.impl
              have h2 := hc.1
              rw [← h.2.1, ← h.2.2, hr] at h2
              cases h2))
            have HR := Lib.hid hr
            clear hr
            go_wp2_with (go_at_call 18; refine (c_IsValidReceiveWindow _ _ _ _ (iT s) HFIT.out HR.out _ (by omega) rdw).mono ?_; rintro e w5 ⟨rfl, hb5⟩; have HP5 := Lib.hid (HP3.out.keep hb5); have r0 := HP5.out.r0; have r1 := HP5.out.r1; have rf0 := HP5.out.rf 0; have rf1 := HP5.out.rf 1)
            (try simp only [Exit.inBlock, Exit.then])
            refine bodyPost_ret (v := .tuple #[.agg #[.int .i64 0, .slice none 0 0], .bool false]) (by simp [results, Tryd.results11, go_sem, r0, r1]) rfl ⟨⟨none, 0, by rw [HB.out.1, HB.out.2.1, HB.out.2.2]; rfl, by rw [HB.out.2.2]; exact Row.nil _ _ _ _ _⟩, (HP5.out.b.setCell (by simp) _).setCell (by simp) _⟩
          · obtain ⟨⟨u, hu, hu2⟩, h8, hi⟩ := rw_facts hr
            have HR := Lib.hid hr
            have HI := Lib.hid hi
            have HU := Lib.hid hu
            rw [HLL.out] at h8
            clear hr hi
            rw [hu] at t0
            clear hu
            have HRu := Lib.hid (show rwB (u : Int) (iT s) = true by rw [← HU.out]; exact HR.out)
            by_cases he : slotsT u (iT s) = s
            · have HB := Lib.hid (ps_yes (s := s) (u := u) (ts := iT s) ⟨by rw [← HU.out]; exact HR.out, he⟩)
              have he2 : ((slotsT u (iT s)).toList == s.toList) = true := by rw [he]; simp
              clear he
              go_wp2_with (first | (go_at_call 18; refine (c_IsValidReceiveWindow _ _ _ _ (iT s) HFIT.out HRu.out _ (by omega) rdw).mono ?_; rintro e w5 ⟨rfl, hb5⟩; have t05 := hb5.cellv t0; have t15 := hb5.cellv t1) | (go_at_call 19; refine (c_slotsText u hu2 _ _ _ (iT s) HI.out _ (hp.tab.keep (HP3.out.b.trans hb5)) (by omega) (rdw.keep hb5)).mono ?_; rintro e w6 ⟨rfl, hb6⟩; have HP6 := Lib.hid (HP3.out.keep (hb5.trans hb6)); have r0 := HP6.out.r0; have r1 := HP6.out.r1; have rf0 := HP6.out.rf 0; have rf1 := HP6.out.rf 1; have t06 := hb6.cellv t05; have t16 := hb6.cellv t15))
              (try simp only [Exit.inBlock, Exit.then])
              have ga := gset w6 ⟨w.heap.size, 0, none⟩ (.int .i64 (u : Int))
              have gb := gset (w6.setCell ⟨w.heap.size, 0, none⟩ (.int .i64 (u : Int))) ⟨w.heap.size, 1, none⟩ (.slice A' k c')
              have hne : ∀ x : Addr, (A' : Option Addr) = some x → some w.heap.size ≠ some x.block := fun x hx he => by have := (HP6.out.row.lt x hx).1; have := Option.some.inj he; omega
              refine bodyPost_ret (v := .tuple #[.agg #[.int .i64 (u : Int), .slice A' k c'], .bool true]) (by simp [results, Tryd.results11, go_sem, r0, r1]) rfl ⟨⟨A', c', by rw [HB.out.1, HB.out.2.1, HB.out.2.2, HLL.out], by rw [HB.out.2.2, HLL.out]; exact ((HP6.out.row.grown ga hne).grown gb hne).mono (by omega)⟩, (HP6.out.b.setCell (by simp) _).setCell (by simp) _⟩
            · have HB := Lib.hid (ps_no (s := s) (fun u' ts hc => by
                have h := hc.impl
                have e1 : u = u' := by have := HU.out.symm.trans h.2.1; omega
                exact he (by rw [h.2.2, e1]; exact hc.2)))
              have he2 := text_ne he
              clear he
              go_wp2_with (first | (go_at_call 18; refine (c_IsValidReceiveWindow _ _ _ _ (iT s) HFIT.out HRu.out _ (by omega) rdw).mono ?_; rintro e w5 ⟨rfl, hb5⟩; have t05 := hb5.cellv t0; have t15 := hb5.cellv t1) | (go_at_call 19; refine (c_slotsText u hu2 _ _ _ (iT s) HI.out _ (hp.tab.keep (HP3.out.b.trans hb5)) (by omega) (rdw.keep hb5)).mono ?_; rintro e w6 ⟨rfl, hb6⟩; have HP6 := Lib.hid (HP3.out.keep (hb5.trans hb6)); have r0 := HP6.out.r0; have r1 := HP6.out.r1; have rf0 := HP6.out.rf 0; have rf1 := HP6.out.rf 1))
              (try simp only [Exit.inBlock, Exit.then])
              refine bodyPost_ret (v := .tuple #[.agg #[.int .i64 0, .slice none 0 0], .bool false]) (by simp [results, Tryd.results11, go_sem, r0, r1]) rfl ⟨⟨none, 0, by rw [HB.out.1, HB.out.2.1, HB.out.2.2]; rfl, by rw [HB.out.2.2]; exact Row.nil _ _ _ _ _⟩, (HP6.out.b.setCell (by simp) _).setCell (by simp) _⟩
end Go.Proofs.YtedbidepplmjdaaDoor
