
/- Links: the program's count of the fates; the law's marks. -/
import Derived.Test.YtilgllbojdkhhaaDoorN6
namespace Go.Proofs.YtilgllbojdkhhaaDoor
open Go.RowKit Go.Shelf
set_option maxRecDepth 100000 in
set_option maxHeartbeats 1000000 in
theorem c_iCountFates (A : Option Addr) (n c : Nat) (ss : List ByteArray) (hf : fitS ss) (f : ByteArray) (hfs : f.size ≤ maxLen) (u : Int) (w : World) (hn : n ≤ 9223372036854775807) (h : Rd w A n 1 (ss.map scell)) :
    Calls Tryd.prog 26 #[.agg #[.slice A n c, .string f, .int .i64 u]] w fun e w' => (∃ A' c', e = .returned (.tuple #[.slice A' (cfL ss f u).length c', .bool (lkB ss f u)]) ∧ Row w' w.heap.size 3 1 icell A' (cfL ss f u).length c' (cfL ss f u)) ∧ Bw w w' := by
  have hbx : Bw w (w.alloc (.cells #[.slice A n c, .string f, .int .i64 u] 27)) := Bw.alloc (Bw.refl _) _
  cases hg : lkB ss f u
  · have HR := Lib.hid (show cfL ss f u = [] by simp [cfL, hg])
    rw [HR.out]
    go_enter Tryd.func26, Tryd.ntmps26
    go_wp2_with (go_at_call 12; refine (c_IsValidLink _ _ _ ss hf f hfs u hg _ hn (h.keep hbx)).mono ?_; rintro e w1 ⟨rfl, hb1⟩)
    go_ret2
    exact ⟨⟨_, _, rfl, Row.nil _ _ _ _ _⟩, hbx.trans hb1⟩
  · obtain ⟨g1, g2, g3, g4, g5⟩ := lkB_iff.1 hg
    have ⟨u0, u1⟩ := inR_iff.1 g5
    obtain ⟨v, rfl⟩ := Int.eq_ofNat_of_zero_le u0
    have hvf : v ≤ f.size := by omega
    have HR := Lib.hid (show cfL ss f (v : Int) = cntL (restL f v f.size) by rw [cfL, if_pos hg]; rfl)
    have Hg := Lib.hid hg
    have HL := Lib.hid (fun (ch : UInt8) W => restL_all f v ▸ Any.strings_Count_one lays138 (f.extract v f.size) ch W)
    have hlen := restL_len f v f.size
    have HB := Lib.hid (fun ch : UInt8 => (show Lib.countByte (restL f v f.size) ch ≤ (restL f v f.size).length from List.count_le_length))
    clear g1 g2 g4 g5 hg
    go_enter Tryd.func26, Tryd.ntmps26
    go_wp2_with (go_at_call 12; refine (c_IsValidLink _ _ _ ss hf f hfs v Hg.out _ hn (h.keep hbx)).mono ?_; rintro e w1 ⟨rfl, hb1⟩; have d1 := hb1.cellv (p := ⟨w.heap.size, 1, none⟩) (v := .string f) (by go_simp); have d2 := hb1.cellv (p := ⟨w.heap.size, 2, none⟩) (v := .int .i64 v) (by go_simp); have hs1 : w.heap.size < w1.heap.size := World.block_lt_of_cell? w1 _ d1)
    have hb2 := (hbx.trans hb1).alloc (.cells #[.string ⟨#[107]⟩, .string ⟨#[108]⟩, .string ⟨#[100]⟩, .string ⟨#[115]⟩] 9)
    generalize restL f v f.size = l at *
    go_loopw [4, 12] (fun v' i wr => ∃ k : Nat, k ≤ 4 ∧ i = .int .i64 k ∧ (∃ A c, v' = .slice A k c ∧ Row wr (w1.heap.size + 1) 3 1 icell A k c ((cntL l).take k)) ∧ wr.cell? ⟨w.heap.size, 1, none⟩ = some (.string f) ∧ wr.cell? ⟨w.heap.size, 2, none⟩ = some (.int .i64 v) ∧ (wr.cell? ⟨w1.heap.size, 0, none⟩ = some (.string ⟨#[107]⟩) ∧ wr.cell? ⟨w1.heap.size, 1, none⟩ = some (.string ⟨#[108]⟩) ∧ wr.cell? ⟨w1.heap.size, 2, none⟩ = some (.string ⟨#[100]⟩) ∧ wr.cell? ⟨w1.heap.size, 3, none⟩ = some (.string ⟨#[115]⟩)) ∧ w1.heap.size < wr.heap.size ∧ Bw w wr) (fun _ i _ => 4 - (intOf i).toNat)
    case atStart => exact ⟨0, Nat.zero_le _, rfl, ⟨_, _, rfl, Row.nil _ _ _ _ _⟩, by go_simp, by go_simp, ⟨by go_simp, by go_simp, by go_simp, by go_simp⟩, by simp, hb2⟩
    case round =>
      obtain ⟨k, hk, rfl, ⟨A', c', rfl, hrow⟩, hd1, hd2, ⟨e0, e1, e2, e3⟩, hsr, hbl⟩ := hrel
      have nown := fun b (hb : b ≤ w1.heap.size) => hrow.notOwnB (b := b) (m := k) (d := c') (fun x hx => by have := (hrow.lt x hx).1; omega)
      have no := nown w.heap.size (by omega)
      have no1 := nown w1.heap.size (Nat.le_refl _)
      clear nown
      by_cases hlt : k < 4
      · rcases (show k = 0 ∨ k = 1 ∨ k = 2 ∨ k = 3 by omega) with rfl | rfl | rfl | rfl
        all_goals
          go_wp2_with (first | (go_at_call 47; refine (HL.out _ _).mono ?_; rintro e w2 ⟨rfl, rfl⟩) | (at_builtin; refine append_int rfl _ _ rfl _ _ _ _ rfl hrow _ _ rfl rfl ?_ ?_ ?_; omega; omega; intro A2 c2 w2 hrow2 hg2 hmv2))
          go_roundw
          case rel => exact ⟨_, by omega, by go_num, ⟨A2, c2, rfl, hrow2⟩, hg2.cell hd1 no, hg2.cell hd2 no, ⟨hg2.cell e0 no1, hg2.cell e1 no1, hg2.cell e2 no1, hg2.cell e3 no1⟩, Nat.lt_of_lt_of_le hsr hg2.size, Bw.ofRow hbl hg2 (fun x hx => by have := (hrow.lt x hx).1; omega)⟩
          case measure => simp [intOf]
      · obtain rfl : k = 4 := by omega
        have rowz : Row wr w.heap.size 3 1 icell A' 4 c' (cntL l) := hrow.mono (by omega)
        go_wp2
        go_ret2
        rw [HR.out]
        exact ⟨⟨_, _, rfl, rowz⟩, hbl⟩
theorem c_markLink (f : ByteArray) (u : Int) (A : Option Addr) (n c : Nat) (ss : List ByteArray) (lo : Nat) (w : World) (hn : n ≤ 1048576) (h : Row w lo 9 1 scell A n c ss) :
    Calls Tryd.prog 16 #[.agg #[.slice A n c, .string f, .int .i64 u], .int .i64 1] w fun e w' => e = .returned (.int .i64 (1 + n)) ∧ w.grownBy w' (Value.ownBlock (.slice A n c)) := by
  go_enter Tryd.func16, Tryd.ntmps16
  go_wp2_with (go_at_call 23; refine (c_markStringS _ _ _ ss 1 lo _ hn (by omega) (by omega) (h.keep (Bw.alloc (Bw.refl _) _))).mono ?_; rintro e w1 ⟨rfl, _, hg1⟩)
  go_ret
  exact ⟨rfl, (Bw.alloc (Bw.refl _) _).toGrown.weaken.trans hg1⟩
end Go.Proofs.YtilgllbojdkhhaaDoor
