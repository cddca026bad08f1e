
/- MissingSerials: the numbers of a span, and those that are left of it. -/
import Derived.Test.YtcemcgcbhmianaaDoorV6
import Derived.Test.YtcemcgcbhmianaaDoorU6
import Derived.Test.YtcemcgcbhmianaaDoorI
import Derived.Test.YtcemcgcbhmianaaDoorK12
import Derived.Test.YtcemcgcbhmianaaDoorK17
import Derived.Deep.RegionHeld3
namespace Go.Proofs.YtcemcgcbhmianaaDoor
open Go.RowKit
def heldS (t : Int) (n : Nat) : List Int := (List.range n).map (fun (i : Nat) => aftI t (i : Int))
theorem heldS_len (t : Int) (n : Nat) : (heldS t n).length = n := by simp [heldS]
theorem heldS_succ (t : Int) (k : Nat) : heldS t (k + 1) = heldS t k ++ [aftI t k] := by simp [heldS, List.range_succ]
theorem heldS_bd (t : Int) (n : Nat) : ∀ x, x ∈ heldS t n → 0 ≤ x ∧ x ≤ 65535 := by
  intro x hx
  simp only [heldS, List.mem_map] at hx
  obtain ⟨i, _, rfl⟩ := hx
  unfold aftI; omega
def missL (t : Int) (ts : List Slot) (g : Nat) : List Int := leave (hasB t ts) (heldS t g)
theorem missL_len (t : Int) (ts : List Slot) (g : Nat) : (missL t ts g).length ≤ g := by
  have := List.length_filter_le (fun x => !hasB t ts x) (heldS t g)
  rw [heldS_len] at this
  exact this
theorem hasB_aft {t : Int} {ts : List Slot} {k : Nat} (t0 : 0 ≤ t) (t1 : t ≤ 65535) (hk : k ≤ 65535) : hasB t ts (aftI t k) = (decide (k < ts.length) && (slotAt ts k).have_) := by
  have h : gapI t (aftI t k) = (k : Int) := by unfold gapI aftI; omega
  simp [hasB, h]
theorem missL_no {t : Int} {ts : List Slot} {k : Nat} (h : hasB t ts (aftI t k) = true) : missL t ts (k + 1) = missL t ts k := by
  simp [missL, heldS_succ, leave, h]
theorem missL_yes {t : Int} {ts : List Slot} {k : Nat} (h : hasB t ts (aftI t k) = false) : missL t ts (k + 1) = missL t ts k ++ [aftI t k] := by
  simp [missL, heldS_succ, leave, h]
set_option maxRecDepth 100000 in
theorem c_span (t : Int) (n : Nat) (t0 : 0 ≤ t) (t1 : t ≤ 65535) (hn : n ≤ 1000) (w : World) :
    Calls Tryd.prog 98 #[.int .i64 t, .int .i64 n] w fun e w' => (∃ A c, e = .returned (.slice A n c) ∧ Row w' w.heap.size 3 1 icell A n c (heldS t n)) ∧ Bw w w' := by
  go_enter Tryd.func98, Tryd.ntmps98
  go_wp2
  go_loopw [5, 8] (fun v i wr => ∃ k : Nat, k ≤ n ∧ i = .int .i64 k ∧ (∃ A c, v = .slice A k c ∧ Row wr w.heap.size 3 1 icell A k c (heldS t k)) ∧ Bw w wr) (fun _ i _ => n - (intOf i).toNat)
  case atStart => exact ⟨0, Nat.zero_le _, rfl, ⟨_, _, rfl, Row.nil _ _ _ _ _⟩, Bw.refl _⟩
  case round =>
    obtain ⟨k, hk, rfl, ⟨A', c', rfl, hrow⟩, hbl⟩ := hrel
    have HS := Lib.hid (heldS_succ t k)
    by_cases hlt : k < n
    · go_wp2_with (first | (go_at_call 57; refine (c_after _ _ rfl (by omega) (by omega) (by omega) (by omega) _).mono ?_; rintro e w1 ⟨rfl, rfl⟩) | (at_builtin; refine append_int rfl _ _ rfl _ _ _ _ rfl hrow _ _ rfl rfl ?_ ?_ ?_; omega; exact hbl.size; intro A2 c2 w2 hrow2 hg2 hmv2))
      go_roundw
      case rel => exact ⟨k + 1, by omega, by go_num, by rw [HS.out]; exact ⟨A2, c2, by simp, by simpa using hrow2⟩, Bw.ofRow hbl hg2 (fun x hx => (hrow.lt x hx).1)⟩
      case measure => simp [intOf]; omega
    · go_wp2
      go_ret
      obtain rfl : k = n := by omega
      exact ⟨⟨_, _, rfl, hrow⟩, hbl⟩
theorem c_IndexFuncHas (t : Int) (t0 : 0 ≤ t) (t1 : t ≤ 65535) (As : Option Addr) (ns cs : Nat) (ss : List Slot) (hns : ns ≤ 9223372036854775807) (A : Option Addr) (n c : Nat) (ts : List Int) (hok : ∀ x, x ∈ ts → 0 ≤ x ∧ x ≤ 65535) {mm : Int} (hmm : idxPI (hasB t ss) ts = mm) (w : World) (hm : n ≤ 1048576) (h : Rd w A n 1 (ts.map icell)) (hs : Rd w As ns 2 (ss.map Slot.cells)) :
    Calls Tryd.prog 120 #[.slice A n c, .func (.func 75) #[.agg #[.int .i64 t, .slice As ns cs]] #[]] w fun e w' => e = .returned (.int .i64 mm) ∧ Bw w w' := by
  subst hmm
  have HL := Lib.hid h.ilen
  have HOK := Lib.hid hok
  clear hok
  go_enter Tryd.func120, Tryd.ntmps120
  go_wp2
  go_loopw [8] (fun i wr => ∃ k : Nat, k ≤ n ∧ i = .int .i64 k ∧ (∀ j (hj : j < k) (hj2 : j < ts.length), hasB t ss ts[j] = false) ∧ Bw w wr) (fun i _ => n - (intOf i).toNat)
  case atStart => exact ⟨0, Nat.zero_le _, rfl, fun j hj => absurd hj (by omega), Bw.refl _⟩
  case round =>
    obtain ⟨k, hk, rfl, hst, hbl⟩ := hrel
    have Hst := Lib.hid hst
    clear hst
    by_cases hkn : k < n
    · obtain ⟨b, off, rfl, hb, hc⟩ := (h.keep hbl).ints (by omega)
      have h0 := hc k hkn
      clear hc
      have hkt : k < ts.length := by rw [HL.out]; exact hkn
      have Ht := Lib.hid (intAt_lt hkt)
      have ⟨x0, x1⟩ := HOK.out (intAt ts k) (by rw [intAt_lt hkt]; exact List.getElem_mem _)
      cases hp : hasB t ss (intAt ts k)
      · have Hp := Lib.hid hp
        go_wp2_with (go_at_call 75; refine (c_has t _ _ _ ss _ t0 t1 x0 x1 Hp.out _ hns (hs.keep hbl)).mono ?_; rintro e w1 ⟨rfl, hb1⟩)
        go_roundw
        case rel =>
          refine ⟨k + 1, by omega, by go_num, ?_, hbl.trans hb1⟩
          intro j hj hj2
          rcases Nat.lt_succ_iff_lt_or_eq.1 hj with h9 | h9
          · exact Hst.out j h9 hj2
          · subst h9; rw [← Ht.out]; exact Hp.out
        case measure => simp [intOf]; omega
      · have Hp := Lib.hid hp
        go_wp2_with (go_at_call 75; refine (c_has t _ _ _ ss _ t0 t1 x0 x1 Hp.out _ hns (hs.keep hbl)).mono ?_; rintro e w1 ⟨rfl, hb1⟩)
        go_ret
        have he := idxP_eq (p := hasB t ss) (ts := ts) hkt (by rw [← Ht.out]; exact Hp.out) (fun j hj => Hst.out j hj (by omega))
        exact ⟨ret_int (by simp [idxPI, he, hkt]), hbl.trans hb1⟩
    · go_wp2
      go_ret
      have he := idxP_none (p := hasB t ss) (ts := ts) (fun j hj => Hst.out j (by rw [HL.out] at hj; omega) hj)
      exact ⟨ret_int (by simp [idxPI, he]), hbl⟩
set_option maxRecDepth 100000 in
set_option maxHeartbeats 1000000 in
theorem c_DeleteFuncHas (t : Int) (t0 : 0 ≤ t) (t1 : t ≤ 65535) (As : Option Addr) (ns cs : Nat) (ss : List Slot) (hns : ns ≤ 9223372036854775807) (A : Option Addr) (n c : Nat) (ts : List Int) (hok : ∀ x, x ∈ ts → 0 ≤ x ∧ x ≤ 65535) (lo : Nat) (w : World) (hm : n ≤ 1048576) (hrw : Row w lo 3 1 icell A n c ts) (hs : Rd w As ns 2 (ss.map Slot.cells)) (hs2 : ∀ w', w.grownBy w' (Value.ownBlock (.slice A n c)) → Rd w' As ns 2 (ss.map Slot.cells)) :
    Calls Tryd.prog 97 #[.slice A n c, .func (.func 75) #[.agg #[.int .i64 t, .slice As ns cs]] #[]] w fun e w' => e = .returned (.slice A (leave (hasB t ss) ts).length c) ∧ Row w' lo 3 1 icell A (leave (hasB t ss) ts).length c (leave (hasB t ss) ts) ∧ w.grownBy w' (Value.ownBlock (.slice A n c)) := by
  have hlen := hrw.len
  have HL := Lib.hid hlen
  have HOK := Lib.hid hok
  have ⟨hnc, hcm⟩ := hrw.caps
  unfold maxLen at hcm
  by_cases hi : idxP (hasB t ss) ts = ts.length
  · have Hlv := Lib.hid (leave_all hi)
    have hmm : idxPI (hasB t ss) ts = -1 := by simp [idxPI, hi]
    clear hi hlen
    go_enter Tryd.func97, Tryd.ntmps97
    go_wp2_with (go_at_call 120; refine (c_IndexFuncHas t t0 t1 _ _ _ ss hns A n c ts HOK.out hmm w hm (hrw.rd (fun _ => rfl)) hs).mono ?_; rintro e w1 ⟨rfl, hb1⟩)
    go_ret
    rw [Hlv.out, HL.out]
    exact ⟨rfl, hrw.keep hb1, ⟨hb1.b.os, hb1.b.tape, hb1.b.output, hb1.size, fun k hk _ => hb1.b.block k hk⟩⟩
  · have hi2 : idxP (hasB t ss) ts < ts.length := by have := idxP_le (hasB t ss) ts; omega
    have Hst0 := Lib.hid (DelSt.start hi2)
    have Hmm := Lib.hid (show idxPI (hasB t ss) ts = (idxP (hasB t ss) ts : Int) by simp [idxPI, hi2])
    generalize hp0 : idxP (hasB t ss) ts = i0 at *
    obtain ⟨g, rfl, hlo, hgl⟩ := hrw.form (by omega)
    have hzv : ∀ w, (zeroValue 3).run Tryd.prog w = .ok (.int .i64 0) w := fun w => by kernel_rfl
    have Hzv := Lib.hid hzv
    have hi3 : i0 < n := by omega
    clear hzv hlen hi hp0 hok
    go_enter Tryd.func97, Tryd.ntmps97
    go_wp2_with (go_at_call 120; refine (c_IndexFuncHas t t0 t1 _ _ _ ss hns _ n c ts HOK.out Hmm.out w hm (hrw.rd (fun _ => rfl)) hs).mono ?_; rintro e w1 ⟨rfl, hb1⟩)
    go_loopw [5, 6] (fun iv jv wr => ∃ (i j : Nat) (xs : List Int), iv = .int .i64 i ∧ jv = .int .i64 j ∧ DelSt (hasB t ss) ts xs i j ∧ Row wr lo 3 1 icell (some ⟨g, 0, none⟩) n c xs ∧ w.grownBy wr (some g)) (fun _ jv _ => n - (intOf jv).toNat)
    case atStart => exact ⟨i0, i0 + 1, ts, rfl, by go_num, Hst0.out, hrw.keep hb1, ⟨hb1.b.os, hb1.b.tape, hb1.b.output, hb1.size, fun k hk _ => hb1.b.block k hk⟩⟩
    case round =>
      obtain ⟨i, j, xs, rfl, rfl, hst, hrow, hg⟩ := hrel
      have hij := hst.le
      have hjn := hst.jn
      have hjn' : j ≤ n := by have := HL.out; omega
      have Hst := Lib.hid hst
      clear hst
      have hs1 : Rd wr As ns 2 (ss.map Slot.cells) := hs2 wr hg
      by_cases hlt : j < n
      · have hjt : j < ts.length := by have := HL.out; omega
        have hat := Hst.out.at_ hjt
        have hxj : intAt xs j = ts[j] := by simp [intAt, hat.2]
        have ⟨x0, x1⟩ := HOK.out ts[j] (List.getElem_mem _)
        obtain ⟨g', hg', _, hgl', hfz, hcc⟩ := hrow.ints (by omega)
        obtain rfl : g = g' := by simpa using hg'
        have h0 := hcc j hlt
        rw [hxj] at h0
        clear hcc hxj hat hfz
        cases hp : hasB t ss ts[j]
        · have Hp := Lib.hid hp
          go_wp2_with (go_at_call 75; refine (c_has t _ _ _ ss _ t0 t1 x0 x1 Hp.out _ hns hs1).mono ?_; rintro e w2 ⟨rfl, hb2⟩; have hrow2 := hrow.keep hb2; obtain ⟨g2, hg2, _, hgl2, hfz2, hcc2⟩ := hrow2.ints (by omega); obtain rfl : g = g2 := (by simpa using hg2); have p0 := hcc2 i (by omega); clear hcc2)
          go_roundw
          case rel =>
            have hs2 := hrow2.set1 (t := ts[j]) (a := .int .i64 ts[j]) (fun _ => rfl) (show i < n by omega) rfl
            have hgb : wr.grownBy w2 (some g) := hb2.toGrown.weaken
            first | exact ⟨i + 1, j + 1, _, by go_num, by go_num, Hst.out.keep hjt hp, hs2.1, (hg.trans hgb).trans hs2.2⟩ | ((repeat apply Exists.intro); exact ⟨⟨i + 1, j + 1, _, by go_num, by go_num, Hst.out.keep hjt hp, hs2.1, (hg.trans hgb).trans hs2.2⟩, rfl⟩)
          case measure => simp [intOf]; omega
        · have Hp := Lib.hid hp
          go_wp2_with (go_at_call 75; refine (c_has t _ _ _ ss _ t0 t1 x0 x1 Hp.out _ hns hs1).mono ?_; rintro e w2 ⟨rfl, hb2⟩)
          go_roundw
          case rel =>
            have hgb : wr.grownBy w2 (some g) := hb2.toGrown.weaken
            first | exact ⟨i, j + 1, xs, rfl, by go_num, Hst.out.skip hjt hp, hrow.keep hb2, hg.trans hgb⟩ | ((repeat apply Exists.intro); exact ⟨⟨i, j + 1, xs, rfl, by go_num, Hst.out.skip hjt hp, hrow.keep hb2, hg.trans hgb⟩, rfl⟩)
          case measure => simp [intOf]; omega
      · have hjt : j = ts.length := by have := HL.out; omega
        subst hjt
        have hd := Hst.out.done
        have hin : i < n := by have := HL.out; omega
        have hrow1 := hrow.restrict (fun _ => rfl) (by simp) (show i ≤ n by omega)
        rw [hd.1] at hrow1
        have HD := Lib.hid hd.2.1
        have hc0 : ¬ c = 0 := by omega
        have hci : ¬ c = i := by omega
        clear hd
        go_wp2_with (refine wpList_clear_spare (enc := icell) rfl _ 40 rfl lo 3 1 (.int .i64 0) Tryd.underlying40 Hzv.out rfl (by intro u hu; simp [Value.cells] at hu; subst hu; rfl) g _ _ _ hrow1 _ _ _ rfl ?_ ?_ ?_; omega; omega; intro w2 row2 hg2)
        go_ret
        rw [HD.out]
        exact ⟨by simp, row2, hg.trans hg2⟩
end Go.Proofs.YtcemcgcbhmianaaDoor
