
/- Send windows: the serials of all items. -/
import Derived.Test.YthdmnngmijbcbaaDoorS5
import Derived.Test.YthdmnngmijbcbaaDoorS7
import Derived.Test.YthdmnngmijbcbaaDoorI
namespace Go.Proofs.YthdmnngmijbcbaaDoor
open Go.RowKit
def heldS (t : Int) (n : Nat) : List Int := (List.range n).map (fun (i : Nat) => aftI t (i : Int))
theorem heldS_len (t : Int) (n : Nat) : (heldS t n).length = n := by simp [heldS]
theorem heldS_succ (t : Int) (k : Nat) : heldS t (k + 1) = heldS t k ++ [aftI t k] := by simp [heldS, List.range_succ]
set_option maxRecDepth 100000 in
theorem c_span (t : Int) (n : Nat) (t0 : 0 ≤ t) (t1 : t ≤ 65535) (hn : n ≤ 1000) (w : World) :
    Calls Tryd.prog 67 #[.int .i64 t, .int .i64 n] w fun e w' => (∃ A c, e = .returned (.slice A n c) ∧ Row w' w.heap.size 3 1 icell A n c (heldS t n)) ∧ Bw w w' := by
  go_enter Tryd.func67, Tryd.ntmps67
  go_wp2
  go_loopw [5, 8] (fun v i wr => ∃ k : Nat, k ≤ n ∧ i = .int .i64 k ∧ (∃ A c, v = .slice A k c ∧ Row wr w.heap.size 3 1 icell A k c (heldS t k)) ∧ Bw w wr) (fun _ i _ => n - (intOf i).toNat)
  case atStart => exact ⟨0, Nat.zero_le _, rfl, ⟨_, _, rfl, Row.nil _ _ _ _ _⟩, Bw.refl _⟩
  case round =>
    obtain ⟨k, hk, rfl, ⟨A', c', rfl, hrow⟩, hbl⟩ := hrel
    have HS := Lib.hid (heldS_succ t k)
    by_cases hlt : k < n
    · go_wp2_with (first | (go_at_call 85; refine (c_after _ _ rfl (by omega) (by omega) (by omega) (by omega) _).mono ?_; rintro e w1 ⟨rfl, rfl⟩) | (at_builtin; refine append_int rfl _ _ rfl _ _ _ _ rfl hrow _ _ rfl rfl ?_ ?_ ?_; omega; exact hbl.size; intro A2 c2 w2 hrow2 hg2 hmv2))
      go_roundw
      case rel => exact ⟨k + 1, by omega, by go_num, by rw [HS.out]; exact ⟨A2, c2, by simp, by simpa using hrow2⟩, Bw.ofRow hbl hg2 (fun x hx => (hrow.lt x hx).1)⟩
      case measure => simp [intOf]; omega
    · go_wp2
      go_ret
      obtain rfl : k = n := by omega
      exact ⟨⟨_, _, rfl, hrow⟩, hbl⟩
def heldL (t z : Int) (ss : List ByteArray) : List Int := if swB t z ss = true then heldS t ss.length else []
theorem heldL_len (t z : Int) (ss : List ByteArray) : (heldL t z ss).length ≤ ss.length := by
  unfold heldL; split
  · rw [heldS_len]; exact Nat.le_refl _
  · simp
set_option maxRecDepth 100000 in
theorem c_iHeldSerials (t z : Int) (A : Option Addr) (n c : Nat) (ss : List ByteArray) (hf : fitS ss) (w : World) (hn : n ≤ 9223372036854775807) (h : Rd w A n 1 (ss.map scell)) :
    Calls Tryd.prog 30 #[.agg #[.int .i64 t, .int .i64 z, .slice A n c]] w fun e w' => (∃ A' c', e = .returned (.tuple #[.slice A' (heldL t z ss).length c', .bool (swB t z ss)]) ∧ Row w' w.heap.size 3 1 icell A' (heldL t z ss).length c' (heldL t z ss)) ∧ Bw w w' := by
  have hl := Lib.hid h.slen
  have hbx : Bw w (w.alloc (.cells #[.int .i64 t, .int .i64 z, .slice A n c] 27)) := Bw.alloc (Bw.refl _) _
  cases hg : swB t z ss
  · have HR := Lib.hid (show heldL t z ss = [] by rw [heldL, hg]; rfl)
    go_enter Tryd.func30, Tryd.ntmps30
    go_wp2_with (go_at_call 16; refine (c_IsValidSendWindow t z _ _ _ ss hf hg _ hn (h.keep hbx)).mono ?_; rintro e w1 ⟨rfl, hb1⟩)
    go_ret2
    rw [HR.out]
    exact ⟨⟨_, _, rfl, Row.nil _ _ _ _ _⟩, hbx.trans hb1⟩
  · obtain ⟨g1, g2, g3, g4⟩ := swB_iff.1 hg
    have ⟨t0, t1⟩ := inR_iff.1 g1
    have ⟨z0, z1⟩ := inR_iff.1 g2
    have hn6 : n ≤ 6 := by have := hl.out; omega
    have HR := Lib.hid (show heldL t z ss = heldS t n by rw [heldL, hg, hl.out]; rfl)
    have Hg := Lib.hid hg
    clear g1 g2 g3 g4 hg
    go_enter Tryd.func30, Tryd.ntmps30
    go_wp2_with (go_at_call 16; refine (c_IsValidSendWindow t z _ _ _ ss hf Hg.out _ hn (h.keep hbx)).mono ?_; rintro e w1 ⟨rfl, hb1⟩; have d0 := hb1.cellv (p := ⟨w.heap.size, 0, none⟩) (v := .int .i64 t) (by go_simp); have d1 := hb1.cellv (p := ⟨w.heap.size, 1, none⟩) (v := .int .i64 z) (by go_simp); have d2 := hb1.cellv (p := ⟨w.heap.size, 2, none⟩) (v := .slice A n c) (by go_simp))
    refine (c_span t n t0 t1 (by omega) _).mono ?_
    rintro e w2 ⟨⟨A2, c2, rfl, row2⟩, hb2⟩
    go_wp2_with fail
    go_ret2
    rw [HR.out, heldS_len]
    exact ⟨⟨_, _, rfl, row2.mono (hbx.trans hb1).size⟩, (hbx.trans hb1).trans hb2⟩
set_option maxRecDepth 100000 in
theorem c_sHeldSerials (t z : Int) (A : Option Addr) (n c : Nat) (ss : List ByteArray) (hf : fitS ss) (w : World) (hn : n ≤ 9223372036854775807) (h : Rd w A n 1 (ss.map scell)) :
    Calls Tryd.prog 29 #[.agg #[.int .i64 t, .int .i64 z, .slice A n c]] w fun e w' => (∃ A' c', e = .returned (.tuple #[.slice A' (heldL t z ss).length c', .bool (swB t z ss)]) ∧ Row w' w.heap.size 3 1 icell A' (heldL t z ss).length c' (heldL t z ss)) ∧ Bw w w' := by
  have hl := Lib.hid h.slen
  have hbx : Bw w (w.alloc (.cells #[.int .i64 t, .int .i64 z, .slice A n c] 27)) := Bw.alloc (Bw.refl _) _
  have hby : Bw w ((w.alloc (.cells #[.int .i64 t, .int .i64 z, .slice A n c] 27)).alloc (.cells #[] 3)) := Bw.alloc hbx _
  have re := Row.empty (T := Int) (w.alloc (.cells #[.int .i64 t, .int .i64 z, .slice A n c] 27)) w.heap.size 3 1 icell hbx.size
  simp only [World.size_alloc] at re
  cases hg : swB t z ss
  · have HR := Lib.hid (show heldL t z ss = [] by rw [heldL, hg]; rfl)
    go_enter Tryd.func29, Tryd.ntmps29
    go_wp2_with (go_at_call 49; refine (c_l9Good t z _ _ _ ss hf hg _ hn (h.keep hby)).mono ?_; rintro e w1 ⟨rfl, hb1⟩)
    go_ret2
    rw [HR.out]
    exact ⟨⟨_, _, rfl, re.keep hb1⟩, hby.trans hb1⟩
  · obtain ⟨g1, g2, g3, g4⟩ := swB_iff.1 hg
    have ⟨t0, t1⟩ := inR_iff.1 g1
    have ⟨z0, z1⟩ := inR_iff.1 g2
    have hn6 : n ≤ 6 := by have := hl.out; omega
    have HR := Lib.hid (show heldL t z ss = heldS t n by rw [heldL, hg, hl.out]; rfl)
    have Hg := Lib.hid hg
    clear g1 g2 g3 g4 hg
    go_enter Tryd.func29, Tryd.ntmps29
    go_wp2_with (go_at_call 49; refine (c_l9Good t z _ _ _ ss hf Hg.out _ hn (h.keep hby)).mono ?_; rintro e w1 ⟨rfl, hb1⟩; have d0 := hb1.cellv (p := ⟨w.heap.size, 0, none⟩) (v := .int .i64 t) (by go_simp); have d1 := hb1.cellv (p := ⟨w.heap.size, 1, none⟩) (v := .int .i64 z) (by go_simp); have d2 := hb1.cellv (p := ⟨w.heap.size, 2, none⟩) (v := .slice A n c) (by go_simp); have re1 := re.keep hb1)
    go_loopw [4, 5] (fun v i wr => ∃ k : Nat, k ≤ n ∧ i = .int .i64 k ∧ (∃ A c, v = .slice A k c ∧ Row wr w.heap.size 3 1 icell A k c (heldS t k)) ∧ wr.cell? ⟨w.heap.size, 0, none⟩ = some (.int .i64 t) ∧ wr.cell? ⟨w.heap.size, 2, none⟩ = some (.slice A n c) ∧ (∀ x c', v = .slice (some x) k c' → w.heap.size < x.block) ∧ Bw w wr) (fun _ i _ => n - (intOf i).toNat)
    case atStart => exact ⟨0, Nat.zero_le _, rfl, ⟨_, _, rfl, re1⟩, d0, d2, fun x c' hx => by simp only [Value.slice.injEq, Option.some.injEq] at hx; rw [← hx.1]; simp, hby.trans hb1⟩
    case round =>
      obtain ⟨k, hk, rfl, ⟨A', c', rfl, hrow⟩, e0, e2, hne, hbl⟩ := hrel
      have HS := Lib.hid (heldS_succ t k)
      have Hne := Lib.hid hne
      clear hne
      by_cases hlt : k < n
      · go_wp2_with (first | (go_at_call 66; refine (c_l2After _ _ rfl (by omega) (by omega) (by omega) (by omega) _).mono ?_; rintro e w3 ⟨rfl, rfl⟩) | (at_builtin; refine append_int rfl _ _ rfl _ _ _ _ rfl hrow _ _ rfl rfl ?_ ?_ ?_; omega; exact hbl.size; intro A2 c2 w2 hrow2 hg2 hmv2))
        go_roundw
        case rel =>
          have hno : some w.heap.size ≠ Value.ownBlock (.slice A' k c') := fun he => by
            cases A' with
            | none => simp [Value.ownBlock] at he
            | some y =>
              have := Hne.out y c' rfl
              simp only [Value.ownBlock, Option.some.injEq] at he
              omega
          refine ⟨k + 1, by omega, by go_num, by rw [HS.out]; exact ⟨A2, c2, by simp, by simpa using hrow2⟩, hg2.cell e0 hno, hg2.cell e2 hno, fun x c'' hx => ?_, Bw.ofRow hbl hg2 (fun x hx => (hrow.lt x hx).1)⟩
          obtain ⟨y, hy, hyy⟩ := hmv2
          simp only [Value.slice.injEq] at hx
          rw [hy] at hx
          obtain rfl := Option.some.inj hx.1
          have hs0 : w.heap.size < wr.heap.size := World.block_lt_of_cell? wr _ e0
          rcases hyy with hyy | ⟨v, hv, hyy⟩
          · omega
          · rw [hyy]; exact Hne.out v c' (by rw [hv])
        case measure => simp [intOf]; omega
      · go_wp2
        go_ret2
        obtain rfl : k = n := by omega
        rw [HR.out, heldS_len]
        exact ⟨⟨_, _, rfl, hrow⟩, hbl⟩
theorem c_markSendWindow (t z : Int) (A : Option Addr) (n c : Nat) (ss : List ByteArray) (lo : Nat) (w : World) (hn : n ≤ 1048576) (h : Row w lo 9 1 scell A n c ss) :
    Calls Tryd.prog 32 #[.agg #[.int .i64 t, .int .i64 z, .slice A n c], .int .i64 1] w fun e w' => e = .returned (.int .i64 (1 + n)) ∧ w.grownBy w' (Value.ownBlock (.slice A n c)) := by
  go_enter Tryd.func32, Tryd.ntmps32
  go_wp2_with (go_at_call 68; refine (c_markStringS _ _ _ ss 1 lo _ hn (by omega) (by omega) (h.keep (Bw.alloc (Bw.refl _) _))).mono ?_; rintro e w1 ⟨rfl, _, hg1⟩)
  go_ret
  exact ⟨rfl, (Bw.alloc (Bw.refl _) _).toGrown.weaken.trans hg1⟩
end Go.Proofs.YthdmnngmijbcbaaDoor
