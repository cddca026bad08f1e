
/- ParseSlots: the reference's side. -/
import Derived.Test.YtedbidepplmjdaaDoorZ3
import Derived.Test.YtedbidepplmjdaaDoorQ3
namespace Go.Proofs.YtedbidepplmjdaaDoor
open Go.RowKit Go.Shelf
set_option maxRecDepth 100000 in
set_option maxHeartbeats 2000000 in
theorem c_sParseSlots (s : ByteArray) (hs : s.size ≤ 1048576) (w : World) :
    Calls Tryd.prog 10 #[.string s] w fun e w' => (∃ A c, e = .returned (.tuple #[.agg #[.int .i64 (psU s), .slice A (psT s).length c], .bool (psB s)]) ∧ Row w' w.heap.size 48 2 Slot.cells A (psT s).length c (psT s)) ∧ Bw w w' := by
  have hpos := splB_pos 32 s
  have hlen := splB_len 32 s
  go_enter Tryd.func10, Tryd.ntmps10
  go_wp2_with fail
  refine (c_l1Split s 32 hs _).mono ?_
  rintro e w1 ⟨⟨A1, c1, rfl, row1⟩, hb1⟩
  have k1 : Bw w w1 := Bw.trans (by (repeat (first | exact Bw.refl _ | (with_reducible refine Bw.alloc ?_ _)))) hb1
  have r0 := hb1.cellv (p := ⟨w.heap.size, 0, none⟩) (v := .int .i64 0) (by go_simp)
  have r1 := hb1.cellv (p := ⟨w.heap.size, 1, none⟩) (v := .slice none 0 0) (by go_simp)
  have rf : ∀ j, w1.frozen? ⟨w.heap.size, j, none⟩ = false := fun j => (hb1.frz ⟨w.heap.size, j, none⟩ (by simp; omega)).trans (by go_simp)
  have n0 := hb1.cellv (p := ⟨w.heap.size + 1, 0, none⟩) (v := .int .i64 0) (by go_simp)
  have n1 := hb1.cellv (p := ⟨w.heap.size + 1, 1, none⟩) (v := .slice none 0 0) (by go_simp)
  have nf : ∀ j, w1.frozen? ⟨w.heap.size + 1, j, none⟩ = false := fun j => (hb1.frz ⟨w.heap.size + 1, j, none⟩ (by simp)).trans (by go_simp)
  have hn1l : w.heap.size + 1 < w1.heap.size := World.block_lt_of_cell? w1 ⟨w.heap.size + 1, 0, none⟩ n0
  have k01 : Bw (w.alloc (.cells #[.int .i64 0, .slice none 0 0] 30)) w1 := Bw.trans (by (repeat (first | exact Bw.refl _ | (with_reducible refine Bw.alloc ?_ _)))) hb1
  have HR0 := Lib.hid (show (w.alloc (.cells #[.int .i64 0, .slice none 0 0] 30)).cell? ⟨w.heap.size, 0, none⟩ = some (.int .i64 0) by go_simp)
  have HR1 := Lib.hid (show (w.alloc (.cells #[.int .i64 0, .slice none 0 0] 30)).cell? ⟨w.heap.size, 1, none⟩ = some (.slice none 0 0) by go_simp)
  have HRF := Lib.hid (fun j => show (w.alloc (.cells #[.int .i64 0, .slice none 0 0] 30)).frozen? ⟨w.heap.size, j, none⟩ = false by go_simp)
  have HKA := Lib.hid ((Bw.refl w).alloc (.cells #[.int .i64 0, .slice none 0 0] 30))
  simp only [World.size_alloc] at row1
  obtain ⟨g, rfl, hg0, hg1, _, hc⟩ := row1.strs (by omega)
  have q0 := hc 0 (by omega)
  clear hc
  have rf0 := rf 0
  have rf1 := rf 1
  have HSZ := Lib.hid (splB_piece 32 s 0 (by omega))
  by_cases h100 : 100 < s.size
  · have HB := Lib.hid (ps_no (s := s) (fun u ts hc => by have := hc.size; omega))
    go_wp2
    (try simp only [Exit.inBlock, Exit.then])
    refine bodyPost_ret (v := .tuple #[.agg #[.int .i64 0, .slice none 0 0], .bool false]) (by simp [results, Tryd.results10, go_sem, r0, r1]) rfl ⟨⟨none, 0, by rw [HB.out.1, HB.out.2.1, HB.out.2.2]; rfl, by rw [HB.out.2.2]; exact Row.nil _ _ _ _ _⟩, (k1.setCell (by simp) _).setCell (by simp) _⟩
  · by_cases h2 : (strAt (splB 32 s) 0).size < 2
    · have HB := Lib.hid (ps_no (s := s) (fun u ts hc => by have := hc.first.1; omega))
      go_wp2
      (try simp only [Exit.inBlock, Exit.then])
      refine bodyPost_ret (v := .tuple #[.agg #[.int .i64 0, .slice none 0 0], .bool false]) (by simp [results, Tryd.results10, go_sem, r0, r1]) rfl ⟨⟨none, 0, by rw [HB.out.1, HB.out.2.1, HB.out.2.2]; rfl, by rw [HB.out.2.2]; exact Row.nil _ _ _ _ _⟩, (k1.setCell (by simp) _).setCell (by simp) _⟩
    · have hex : (strAt (splB 32 s) 0).extract 0 ((strAt (splB 32 s) 0).size - 1) = sW s := rfl
      have hws : (sW s).size ≤ 1048576 := by
        have := HSZ.out
        rw [← hex]
        simp only [ByteArray.size_extract]
        omega
      have HC := Lib.hid (fun W => c_l1Read (sW s) hws W)
      clear hws
      have HSN := Lib.hid (show rdV (sW s) = sN s from rfl)
      have HSP := Lib.hid (fun u ts (hc : CanS s u ts) => hc.spec)
      generalize sW s = sw at hex HC HSN HSP
      generalize strAt (splB 32 s) 0 = x at *
      obtain ⟨y, hy⟩ : ∃ y, x.size = y + 1 := ⟨x.size - 1, by omega⟩
      rw [hy, Nat.add_sub_cancel] at hex
      have hy2 : ¬ y + 1 < 2 := by omega
      have hsz := HSZ.out
      rw [hy] at hsz
      clear h2
      go_wp2
      (refine wp_region_ext (by kernel_rfl) (by kernel_rfl) ?_; (repeat (go_big_quiet_step ((exact Ext.calls (HC.out _))))); (with_reducible refine wpQuiet_nil ?_); intro w2 hb2)
      rw [HSN.out]
      generalize hok : rdB sw = ok at *
      clear hok HC hex
      obtain ⟨N, hN⟩ : ∃ N, (splB 32 s).length = N + 1 := ⟨(splB 32 s).length - 1, by omega⟩
      have ka := (Bw.refl w2).alloc (.cells #[] 48)
      have kb := (Bw.refl (w2.alloc (.cells #[] 48))).alloc (.cells #[.int .i64 (sN s), .slice (some ⟨w2.heap.size, 0, none⟩) 0 0] 30)
      have k13 := (hb2.trans ka).trans kb
      have hw1 : w.heap.size < w1.heap.size := World.block_lt_of_cell? w1 ⟨w.heap.size, 0, none⟩ r0
      have hw2 := hb2.size
      have re := (Row.empty (T := Slot) w2 ((w.alloc (.cells #[.int .i64 0, .slice none 0 0] 30)).heap.size + 1) 48 2 Slot.cells (by simp only [World.size_alloc]; omega)).keep kb
      have P1 : PS (w.alloc (.cells #[.int .i64 0, .slice none 0 0] 30)) ((w2.alloc (.cells #[] 48)).alloc (.cells #[.int .i64 (sN s), .slice (some ⟨w2.heap.size, 0, none⟩) 0 0] 30)) (w2.heap.size + 1) (sN s) (some ⟨g, 0, none⟩) (splB 32 s).length c1 (splB 32 s) (some ⟨w2.heap.size, 0, none⟩) 0 0 [] :=
        ⟨by simp only [World.size_alloc]; omega, by go_simp, by go_simp, fun j => by go_simp, by simp only [World.size_alloc]; exact k13.cellv n0, by simp only [World.size_alloc]; exact k13.cellv n1, fun j => by simp only [World.size_alloc]; exact (k13.frz ⟨w.heap.size + 1, j, none⟩ hn1l).trans (nf j), re, fun x hx => (by simp only [Option.some.injEq] at hx; subst hx; dsimp only; omega), (row1.keep k13).mono (by simp only [World.size_alloc]; omega), fun x hx => (by simp only [Option.some.injEq] at hx; subst hx; dsimp only; omega), fun x y hx hy => (by simp only [Option.some.injEq] at hx hy; subst hx hy; dsimp only; omega), k01.trans k13⟩
      rw [hN] at P1 hlen ⊢
      have HN1 := Lib.hid hN
      have HP1 := Lib.hid P1
      clear hN P1 re ka kb k13 q0 hy hy2 r0 r1 n0 n1 nf rf rf0 rf1 row1 hn1l k01
      go_wp2_with fail
      go_loopw [9] (fun i wr => ∃ k : Nat, ∃ A' c', k ≤ N ∧ i = .int .i64 ((k : Int) + 1) ∧ PS (w.alloc (.cells #[.int .i64 0, .slice none 0 0] 30)) wr (w2.heap.size + 1) (sN s) (some ⟨g, 0, none⟩) (N + 1) c1 (splB 32 s) A' k c' ((((splB 32 s).drop 1).take k).map slotOf)) (fun i _ => N + 1 - (intOf i).toNat)
      case atStart => exact ⟨0, _, _, Nat.zero_le _, rfl, HP1.out⟩
      case round =>
        obtain ⟨k, A', c', hk, rfl, hP⟩ := hrel
        have HP2 := Lib.hid hP
        have t1 := hP.t1
        have f1 := hP.tf 1
        have row2 := hP.row
        have hs4 : w.heap.size + 1 < wr.heap.size := by have := World.block_lt_of_cell? _ _ hP.r0; simpa using this
        clear hP
        by_cases hltk : k < N
        · have hsz := splB_piece 32 s (k + 1) (by rw [HN1.out]; omega)
          obtain ⟨g', hg', _, _, _, hc⟩ := HP2.out.wrow.strs (by omega)
          obtain rfl : g = g' := by simpa using hg'
          have q0 := hc (k + 1) (by omega)
          have hgl := World.block_lt_of_cell? _ _ q0
          dsimp only at hgl
          clear hc hg'
          have HD := Lib.hid (slots_take (ws := splB 32 s) (k := k) (by rw [HN1.out]; omega))
          generalize strAt (splB 32 s) (k + 1) = x at q0 HD hsz
          have hkk : ((k : Int) + 1).toNat = k + 1 := by omega
          have hTl : w2.heap.size + 1 < wr.heap.size := World.block_lt_of_cell? wr ⟨w2.heap.size + 1, 1, none⟩ t1
          have hTn : w2.heap.size + 1 ≠ wr.heap.size := by omega
          have hTm : wr.heap.size ≠ w2.heap.size + 1 := by omega
          have hgn : g ≠ wr.heap.size := by omega
          have hgm : wr.heap.size ≠ g := by omega
          by_cases h63 : x = ⟨#[63]⟩
          · subst h63
            have HSO := Lib.hid (show slotOf ⟨#[63]⟩ = ⟨false, ⟨#[]⟩⟩ by simp [slotOf])
            go_wp2_with fail
            go_region
            generalize hwq : World.drew (wr.alloc (.cells #[.bool false, .string ⟨#[63]⟩] 48)) = wq
            have hbq : Bw wr wq := by rw [← hwq]; exact ((Bw.refl wr).alloc _).drew
            have x0 : wq.cell? ⟨wr.heap.size, 0, none⟩ = some (.bool false) := by rw [← hwq]; exact ((Bw.refl (wr.alloc _)).drew).cellv (by go_simp)
            have x1 : wq.cell? ⟨wr.heap.size, 1, none⟩ = some (.string ⟨#[63]⟩) := by rw [← hwq]; exact ((Bw.refl (wr.alloc _)).drew).cellv (by go_simp)
            have xf : wq.frozen? ⟨wr.heap.size, 1, none⟩ = false := by rw [← hwq]; exact (((Bw.refl (wr.alloc _)).drew).frz ⟨wr.heap.size, 1, none⟩ (by simp)).trans (by go_simp)
            have HP4 := Lib.hid (HP2.out.keep hbq)
            have t4 := HP4.out.t1
            have f4 := HP4.out.tf 1
            have q4 := hbq.cellv q0
            have hq4 := World.block_lt_of_cell? _ _ x0
            dsimp only at hq4
            clear hwq t1 f1 q0
            have HP5 := Lib.hid (HP2.out.keep (hbq.setCell (p := ⟨wr.heap.size, 1, none⟩) (Nat.le_refl _) (.string ⟨#[]⟩)))
            have row5 := HP5.out.row
            all_goals
              go_wp2_with (at_builtin; refine append_slot rfl _ _ rfl _ _ _ _ rfl row5 _ _ _ rfl ?_ ?_ ?_ ?_; (first | rfl | simp); omega; (first | omega | (simp; omega) | (simp only [World.size_alloc]; omega)); intro A2 c2 w4 row4 hg4 hmv4; have hpush := Lib.hid (HP5.out.push row4 hg4 (by simpa using hmv4)); have t2 := hpush.out.2.1; have f2 := hpush.out.2.2 1)
            all_goals
              go_roundw
              case rel => exact ⟨k + 1, A2, c2, by omega, by go_num, by rw [HD.out, HSO.out]; exact hpush.out.1⟩
              case measure => simp [intOf]; omega
          · have e63 := text_ne h63
            have e63b : (x.toList == [63]) = false := by rw [← e63]; congr 1; rw [Lib.toList_data]
            by_cases h46 : x = ⟨#[46]⟩
            · subst h46
              have HSO := Lib.hid (show slotOf ⟨#[46]⟩ = ⟨true, ⟨#[]⟩⟩ by simp [slotOf])
              go_wp2_with fail
              go_region
              generalize hwq : World.drew (wr.alloc (.cells #[.bool true, .string ⟨#[46]⟩] 48)) = wq
              have hbq : Bw wr wq := by rw [← hwq]; exact ((Bw.refl wr).alloc _).drew
              have x0 : wq.cell? ⟨wr.heap.size, 0, none⟩ = some (.bool true) := by rw [← hwq]; exact ((Bw.refl (wr.alloc _)).drew).cellv (by go_simp)
              have x1 : wq.cell? ⟨wr.heap.size, 1, none⟩ = some (.string ⟨#[46]⟩) := by rw [← hwq]; exact ((Bw.refl (wr.alloc _)).drew).cellv (by go_simp)
              have xf : wq.frozen? ⟨wr.heap.size, 1, none⟩ = false := by rw [← hwq]; exact (((Bw.refl (wr.alloc _)).drew).frz ⟨wr.heap.size, 1, none⟩ (by simp)).trans (by go_simp)
              have HP4 := Lib.hid (HP2.out.keep hbq)
              have t4 := HP4.out.t1
              have f4 := HP4.out.tf 1
              have q4 := hbq.cellv q0
              have hq4 := World.block_lt_of_cell? _ _ x0
              dsimp only at hq4
              clear hwq t1 f1 q0
              have HP5 := Lib.hid (HP2.out.keep (hbq.setCell (p := ⟨wr.heap.size, 1, none⟩) (Nat.le_refl _) (.string ⟨#[]⟩)))
              have row5 := HP5.out.row
              all_goals
                go_wp2_with (at_builtin; refine append_slot rfl _ _ rfl _ _ _ _ rfl row5 _ _ _ rfl ?_ ?_ ?_ ?_; (first | rfl | simp); omega; (first | omega | (simp; omega) | (simp only [World.size_alloc]; omega)); intro A2 c2 w4 row4 hg4 hmv4; have hpush := Lib.hid (HP5.out.push row4 hg4 (by simpa using hmv4)); have t2 := hpush.out.2.1; have f2 := hpush.out.2.2 1)
              all_goals
                go_roundw
                case rel => exact ⟨k + 1, A2, c2, by omega, by go_num, by rw [HD.out, HSO.out]; exact hpush.out.1⟩
                case measure => simp [intOf]; omega
            · have e46 := text_ne h46
              have e46b : (x.toList == [46]) = false := by rw [← e46]; congr 1; rw [Lib.toList_data]
              have HSO := Lib.hid (show slotOf x = ⟨true, x⟩ by simp [slotOf, h63, h46])
              clear h63 h46
              go_wp2_with fail
              go_region
              generalize hwq : World.drew (wr.alloc (.cells #[.bool true, .string x] 48)) = wq
              have hbq : Bw wr wq := by rw [← hwq]; exact ((Bw.refl wr).alloc _).drew
              have x0 : wq.cell? ⟨wr.heap.size, 0, none⟩ = some (.bool true) := by rw [← hwq]; exact ((Bw.refl (wr.alloc _)).drew).cellv (by go_simp)
              have x1 : wq.cell? ⟨wr.heap.size, 1, none⟩ = some (.string x) := by rw [← hwq]; exact ((Bw.refl (wr.alloc _)).drew).cellv (by go_simp)
              have xf : wq.frozen? ⟨wr.heap.size, 1, none⟩ = false := by rw [← hwq]; exact (((Bw.refl (wr.alloc _)).drew).frz ⟨wr.heap.size, 1, none⟩ (by simp)).trans (by go_simp)
              have HP4 := Lib.hid (HP2.out.keep hbq)
              have t4 := HP4.out.t1
              have f4 := HP4.out.tf 1
              have q4 := hbq.cellv q0
              have hq4 := World.block_lt_of_cell? _ _ x0
              dsimp only at hq4
              clear hwq t1 f1 q0
              have HP5 := HP4
              have row5 := HP5.out.row
              all_goals
                go_wp2_with (at_builtin; refine append_slot rfl _ _ rfl _ _ _ _ rfl row5 _ _ _ rfl ?_ ?_ ?_ ?_; (first | rfl | simp); omega; (first | omega | (simp; omega) | (simp only [World.size_alloc]; omega)); intro A2 c2 w4 row4 hg4 hmv4; have hpush := Lib.hid (HP5.out.push row4 hg4 (by simpa using hmv4)); have t2 := hpush.out.2.1; have f2 := hpush.out.2.2 1)
              all_goals
                go_roundw
                case rel => exact ⟨k + 1, A2, c2, by omega, by go_num, by rw [HD.out, HSO.out]; exact hpush.out.1⟩
                case measure => simp [intOf]; omega
        · obtain rfl : k = N := by omega
          have hT : (((splB 32 s).drop 1).take k).map slotOf = sT s := by rw [List.take_of_length_le (by rw [List.length_drop, HN1.out]; omega)]; rfl
          rw [hT] at HP2
          have HP3 := HP2
          clear hT row2 t1
          cases ok
          · have HB := Lib.hid (ps_no (s := s) (fun u ts hc => by have := (HSP.out u ts hc).1; cases this))
            have n0 := HP3.out.r0
            have n1 := HP3.out.r1
            simp only [World.size_alloc] at n0 n1
            have r0 := HP3.out.b.cellv HR0.out
            have r1 := HP3.out.b.cellv HR1.out
            have rf0 := (HP3.out.b.frz ⟨w.heap.size, 0, none⟩ (by simp)).trans (HRF.out 0)
            have rf1 := (HP3.out.b.frz ⟨w.heap.size, 1, none⟩ (by simp)).trans (HRF.out 1)
            go_wp2
            (try simp only [Exit.inBlock, Exit.then])
            refine bodyPost_ret (v := .tuple #[.agg #[.int .i64 0, .slice none 0 0], .bool false]) (by simp [results, Tryd.results10, go_sem, r0, r1]) rfl ⟨⟨none, 0, by rw [HB.out.1, HB.out.2.1, HB.out.2.2]; rfl, by rw [HB.out.2.2]; exact Row.nil _ _ _ _ _⟩, ((HKA.out.trans HP3.out.b).setCell (by simp) _).setCell (by simp) _⟩
          · have hlL := HP3.out.row.len
            have HLL := Lib.hid hlL
            clear hlL
            have t0 := HP3.out.t0
            have t1 := HP3.out.t1
            have rdw := HP3.out.row.rd (fun _ => rfl)
            have HFIT := Lib.hid (show fitL (sT s) from fit_of (b := 32) (s := s) hs)
            cases hr : rwB (sN s) (sT s)
            · have HB := Lib.hid (ps_no (s := s) (fun u ts hc => by
                have h := hc.spec
                have h2 := hc.1
                rw [← h.2.1, ← h.2.2, hr] at h2
                cases h2))
              have HR := Lib.hid hr
              clear hr
              go_wp2_with (go_at_call 15; refine (c_l10Good _ _ _ _ (sT s) HFIT.out HR.out _ (by omega) rdw).mono ?_; rintro e w5 ⟨rfl, hb5⟩; have HP5 := Lib.hid (HP3.out.keep hb5); have n0 := HP5.out.r0; have n1 := HP5.out.r1; simp only [World.size_alloc] at n0 n1; have r0 := HP5.out.b.cellv HR0.out; have r1 := HP5.out.b.cellv HR1.out; have rf0 := (HP5.out.b.frz ⟨w.heap.size, 0, none⟩ (by simp)).trans (HRF.out 0); have rf1 := (HP5.out.b.frz ⟨w.heap.size, 1, none⟩ (by simp)).trans (HRF.out 1))
              (try simp only [Exit.inBlock, Exit.then])
              refine bodyPost_ret (v := .tuple #[.agg #[.int .i64 0, .slice none 0 0], .bool false]) (by simp [results, Tryd.results10, go_sem, r0, r1]) rfl ⟨⟨none, 0, by rw [HB.out.1, HB.out.2.1, HB.out.2.2]; rfl, by rw [HB.out.2.2]; exact Row.nil _ _ _ _ _⟩, ((HKA.out.trans HP5.out.b).setCell (by simp) _).setCell (by simp) _⟩
            · obtain ⟨⟨u, hu, hu2⟩, h8, hi⟩ := rw_facts hr
              have HR := Lib.hid hr
              have HI := Lib.hid hi
              have HU := Lib.hid hu
              rw [HLL.out] at h8
              clear hr hi
              rw [hu] at t0
              clear hu
              have HRu := Lib.hid (show rwB (u : Int) (sT s) = true by rw [← HU.out]; exact HR.out)
              by_cases he : slotsT u (sT s) = s
              · have HB := Lib.hid (ps_yes (s := s) (u := u) (ts := sT s) ⟨by rw [← HU.out]; exact HR.out, he⟩)
                have he2 : ((slotsT u (sT s)).toList == s.toList) = true := by rw [he]; simp
                clear he
                go_wp2_with (first | (go_at_call 15; refine (c_l10Good _ _ _ _ (sT s) HFIT.out HRu.out _ (by omega) rdw).mono ?_; rintro e w5 ⟨rfl, hb5⟩; have t05 := hb5.cellv t0; have t15 := hb5.cellv t1) | (go_at_call 16; refine (c_l10Text u hu2 _ _ _ (sT s) HI.out _ (by omega) (rdw.keep hb5)).mono ?_; rintro e w6 ⟨rfl, hb6⟩; have HP6 := Lib.hid (HP3.out.keep (hb5.trans hb6)); have n0 := HP6.out.r0; have n1 := HP6.out.r1; simp only [World.size_alloc] at n0 n1; have r0 := HP6.out.b.cellv HR0.out; have r1 := HP6.out.b.cellv HR1.out; have rf0 := (HP6.out.b.frz ⟨w.heap.size, 0, none⟩ (by simp)).trans (HRF.out 0); have rf1 := (HP6.out.b.frz ⟨w.heap.size, 1, none⟩ (by simp)).trans (HRF.out 1); have t06 := hb6.cellv t05; have t16 := hb6.cellv t15))
                (try simp only [Exit.inBlock, Exit.then])
                have ga := gset w6 ⟨w.heap.size, 0, none⟩ (.int .i64 (u : Int))
                have gb := gset (w6.setCell ⟨w.heap.size, 0, none⟩ (.int .i64 (u : Int))) ⟨w.heap.size, 1, none⟩ (.slice A' k c')
                have hne : ∀ x : Addr, (A' : Option Addr) = some x → some w.heap.size ≠ some x.block := fun x hx he => by have := (HP6.out.row.lt x hx).1; simp only [World.size_alloc] at this; have := Option.some.inj he; omega
                refine bodyPost_ret (v := .tuple #[.agg #[.int .i64 (u : Int), .slice A' k c'], .bool true]) (by simp [results, Tryd.results10, go_sem, r0, r1]) rfl ⟨⟨A', c', by rw [HB.out.1, HB.out.2.1, HB.out.2.2, HLL.out], by rw [HB.out.2.2, HLL.out]; exact ((HP6.out.row.grown ga hne).grown gb hne).mono (by simp only [World.size_alloc]; omega)⟩, ((HKA.out.trans HP6.out.b).setCell (by simp) _).setCell (by simp) _⟩
              · have HB := Lib.hid (ps_no (s := s) (fun u' ts hc => by
                  have h := hc.spec
                  have e1 : u = u' := by have := HU.out.symm.trans h.2.1; omega
                  exact he (by rw [h.2.2, e1]; exact hc.2)))
                have he2 := text_ne he
                clear he
                go_wp2_with (first | (go_at_call 15; refine (c_l10Good _ _ _ _ (sT s) HFIT.out HRu.out _ (by omega) rdw).mono ?_; rintro e w5 ⟨rfl, hb5⟩; have t05 := hb5.cellv t0; have t15 := hb5.cellv t1) | (go_at_call 16; refine (c_l10Text u hu2 _ _ _ (sT s) HI.out _ (by omega) (rdw.keep hb5)).mono ?_; rintro e w6 ⟨rfl, hb6⟩; have HP6 := Lib.hid (HP3.out.keep (hb5.trans hb6)); have n0 := HP6.out.r0; have n1 := HP6.out.r1; simp only [World.size_alloc] at n0 n1; have r0 := HP6.out.b.cellv HR0.out; have r1 := HP6.out.b.cellv HR1.out; have rf0 := (HP6.out.b.frz ⟨w.heap.size, 0, none⟩ (by simp)).trans (HRF.out 0); have rf1 := (HP6.out.b.frz ⟨w.heap.size, 1, none⟩ (by simp)).trans (HRF.out 1)))
                (try simp only [Exit.inBlock, Exit.then])
                refine bodyPost_ret (v := .tuple #[.agg #[.int .i64 0, .slice none 0 0], .bool false]) (by simp [results, Tryd.results10, go_sem, r0, r1]) rfl ⟨⟨none, 0, by rw [HB.out.1, HB.out.2.1, HB.out.2.2]; rfl, by rw [HB.out.2.2]; exact Row.nil _ _ _ _ _⟩, ((HKA.out.trans HP6.out.b).setCell (by simp) _).setCell (by simp) _⟩
end Go.Proofs.YtedbidepplmjdaaDoor
