
/- The drawn serials and requests. -/
import Derived.Test.YtnejeigcdogolaaCU2
import Derived.Test.YtnejeigcdogolaaR5
namespace Go.Proofs.Ytnejeigcdogolaa
open Go.RowKit
theorem c_l2AfterAny (x n : Int) (w : World) : Calls Try.prog 47 #[.int .i64 x, .int .i64 n] w fun e w' => (∃ m : Int, e = .returned (.int .i64 m)) ∧ w = w' := by
  go_enter Try.func47, Try.ntmps47
  go_wp2
  go_ret
  exact ⟨⟨_, rfl⟩, rfl⟩
section
variable (b : Nat) (A : Option Addr) (n c m : Nat)
set_option maxRecDepth 100000 in
theorem c_serial (hm : m ≤ 850000) (hn : n ≤ 1000000) (w : World) (h : CurE b A n c m w) :
    Calls Try.prog 61 #[.pointer (some ⟨b, 0, none⟩)] w fun e w' => (∃ x : Int, e = .returned (.int .i64 x)) ∧ CurE b A n c (m + 2) w' ∧ w.grownBy w' (some b) := by
  go_enter Try.func61, Try.ntmps61
  go_wp2_with fail
  refine (c_amongL b A n c m _ _ _ _ (by omega) (by omega) (by simp) rfl (by omega) hn _ h _ (by simp)).mono ?_
  rintro e w1 ⟨⟨x1, rfl⟩, h1, g1⟩
  go_wp2_with fail
  refine (c_pickE b A n c _ 12 (by omega) (by omega) (by omega) hn _ h1).mono ?_
  rintro e w2 ⟨⟨x2, rfl, l2⟩, h2, g2⟩
  go_wp2_with fail
  refine (c_l2AfterAny _ _ _).mono ?_
  rintro e _ ⟨⟨y, rfl⟩, rfl⟩
  go_wp2
  go_ret
  exact ⟨⟨_, rfl⟩, h2, g1.trans g2⟩
set_option maxRecDepth 100000 in
theorem c_anySerial (hm : m ≤ 800000) (hn : n ≤ 1000000) (w : World) (h : CurE b A n c m w) :
    Calls Try.prog 32 #[.pointer (some ⟨b, 0, none⟩)] w fun e w' => (∃ x : Int, e = .returned (.int .i64 x)) ∧ CurE b A n c (m + 3) w' ∧ w.grownBy w' (some b) := by
  go_enter Try.func32, Try.ntmps32
  go_wp2_with fail
  refine (c_oneE b A n c _ 20 (by omega) (by omega) (by omega) hn _ h).mono ?_
  rintro e w1 ⟨⟨x1, rfl⟩, h1, g1⟩
  cases x1
  · go_wp2_with fail
    refine (c_serial b A n c _ (by omega) hn _ h1).mono ?_
    rintro e w2 ⟨⟨x2, rfl⟩, h2, g2⟩
    go_wp2
    go_ret
    exact ⟨⟨_, rfl⟩, h2, g1.trans g2⟩
  · go_wp2_with fail
    refine (c_amongL b A n c _ _ _ _ _ (by omega) (by omega) (by simp) rfl (by omega) hn _ h1 _ (by simp)).mono ?_
    rintro e w2 ⟨⟨x2, rfl⟩, h2, g2⟩
    go_wp2
    go_ret
    exact ⟨⟨_, rfl⟩, h2.mono (by omega), g1.trans g2⟩
theorem RowR.cur {w w' : World} {lo : Nat} {T : Type} {e : TypeId} {sz : Nat} {enc : T → List Value} {A' : Option Addr} {k d : Nat} {ts : List T} {b : Nat} (h : Row w lo e sz enc A' k d ts) (hg : w.grownBy w' (some b)) (hb : b < lo) : Row w' lo e sz enc A' k d ts :=
  h.grown hg (fun x hx he => by have := (h.lt x hx).1; simp only [Option.some.injEq] at he; omega)
set_option maxRecDepth 100000 in
set_option maxHeartbeats 1000000 in
theorem c_requests (base : Int) (hm : m ≤ 700000) (hn : n ≤ 1000000) (w : World) (h : CurE b A n c m w) :
    Calls Try.prog 33 #[.pointer (some ⟨b, 0, none⟩), .int .i64 base] w fun e w' => (∃ A' k d, ∃ ts : List Request, e = .returned (.slice A' k d) ∧ k ≤ 9 ∧ Row w' w.heap.size 37 4 Request.cells A' k d ts) ∧ CurE b A n c (m + 60) w' ∧ w.grownBy w' (some b) := by
  have hlt := h.lt
  have hA := h.code.lt
  have g01 := gr_alloc (World.grownBy.refl w (some b)) (.cells #[] 37)
  cases hg : inR base 0 65535
  · have Hg := Lib.hid hg
    go_enter Try.func33, Try.ntmps33
    go_wp2_with fail
    go_loopw [5, 6] (fun v i wr => ∃ (A' : Option Addr) (k d : Nat) (ts : List Request) (j : Nat), v = .slice A' k d ∧ i = .int .i64 j ∧ j ≤ 8 ∧ k ≤ j ∧ Row wr w.heap.size 37 4 Request.cells A' k d ts ∧ CurE b A n c (m + 5 * j) wr ∧ w.grownBy wr (some b)) (fun _ i _ => 8 - (intOf i).toNat)
    case atStart => exact ⟨_, _, _, _, 0, rfl, rfl, by omega, by omega, Row.empty w _ _ _ _ (Nat.le_refl _), h.keep (by (repeat (first | with_reducible assumption | exact Bw.refl _ | (with_reducible refine Bw.setCell ?_ (by simp) _) | (with_reducible refine Bw.alloc ?_ _) | (with_reducible refine Bw.drew ?_) | (with_reducible refine Bw.drewN ?_ _)))), g01⟩
    case round =>
      obtain ⟨A', k, d, ts, j, rfl, rfl, hj, hkj, hrow, hcur, hgr⟩ := hrel
      have hs0 := hgr.size
      by_cases hj8 : (j : Int) < 8
      · go_wp2_with (go_at_call 45; refine (c_l2Good _ Hg.out _).mono ?_; rintro e w9 ⟨rfl, rfl⟩)
        refine (c_pickE b A n c _ 24 (by omega) (by omega) (by omega) hn _ hcur).mono ?_
        rintro e w2 ⟨⟨x2, rfl, l2⟩, h2, g2⟩
        have hrow := RowR.cur hrow g2 hlt
        have hgr := hgr.trans g2
        cases q0 : ((x2 : Int) == 0)
        · cases q1 : ((x2 : Int) == 1)
          · cases q2 : ((x2 : Int) == 2)
            · go_wp2
              go_ret
              exact ⟨⟨_, _, _, _, rfl, by omega, hrow⟩, h2.mono (by omega), hgr⟩
            · go_wp2_with (first | (go_at_call 62; refine (c_l1Most _ _ rfl _).mono ?_; rintro e w1 ⟨rfl, rfl⟩) | (go_at_call 47; refine (c_l2AfterAny _ _ _).mono ?_; rintro e _ ⟨⟨y, rfl⟩, rfl⟩))
              refine (c_amongL b A n c _ _ _ _ _ (by omega) (by omega) (by simp) rfl (by omega) hn _ h2 _ (by simp)).mono ?_
              rintro e w3 ⟨⟨x3, rfl⟩, h3, g3⟩
              have hrow := RowR.cur hrow g3 hlt
              have hg5 := hgr.trans g3
              have hs5 := hg5.size
              go_wp2_with (at_builtin; refine append_Request rfl _ _ rfl _ _ _ _ rfl hrow (⟨_, 2, 0, x3⟩) _ rfl _ rfl rfl ?_ ?_ ?_; omega; exact hs5; intro A2 c2 w2 hrow2 hg2 hmv2)
              go_ret
              exact ⟨⟨_, _, _, _, rfl, by omega, hrow2⟩, (h3.row hg2 (fun x hx => (hrow.lt x hx).1) hlt hA).mono (by omega), gr_row hg5 hg2 (fun x hx => (hrow.lt x hx).1) (Nat.le_refl _)⟩
          · go_wp2_with fail
            refine (c_amongL b A n c _ _ _ _ _ (by omega) (by omega) (by simp) rfl (by omega) hn _ h2 _ (by simp)).mono ?_
            rintro e w3 ⟨⟨x3, rfl⟩, h3, g3⟩
            go_wp2_with fail
            refine (c_amongL b A n c _ _ _ _ _ (by omega) (by omega) (by simp) rfl (by omega) hn _ h3 _ (by simp)).mono ?_
            rintro e w4 ⟨⟨x4, rfl⟩, h4, g4⟩
            have hrow := RowR.cur (RowR.cur hrow g3 hlt) g4 hlt
            have hg5 := (hgr.trans g3).trans g4
            have hs5 := hg5.size
            go_wp2_with (at_builtin; refine append_Request rfl _ _ rfl _ _ _ _ rfl hrow (⟨base, x3, x4, 0⟩) _ rfl _ rfl rfl ?_ ?_ ?_; omega; exact hs5; intro A2 c2 w2 hrow2 hg2 hmv2)
            go_ret
            exact ⟨⟨_, _, _, _, rfl, by omega, hrow2⟩, (h4.row hg2 (fun x hx => (hrow.lt x hx).1) hlt hA).mono (by omega), gr_row hg5 hg2 (fun x hx => (hrow.lt x hx).1) (Nat.le_refl _)⟩
        · go_wp2_with fail
          refine (c_anySerial b A n c _ (by omega) hn _ h2).mono ?_
          rintro e w3 ⟨⟨x3, rfl⟩, h3, g3⟩
          have hrow := RowR.cur hrow g3 hlt
          have hg5 := hgr.trans g3
          have hs5 := hg5.size
          go_wp2_with (at_builtin; refine append_Request rfl _ _ rfl _ _ _ _ rfl hrow (⟨x3, 1, 0, 0⟩) _ rfl _ rfl rfl ?_ ?_ ?_; omega; exact hs5; intro A2 c2 w2 hrow2 hg2 hmv2)
          go_ret
          exact ⟨⟨_, _, _, _, rfl, by omega, hrow2⟩, (h3.row hg2 (fun x hx => (hrow.lt x hx).1) hlt hA).mono (by omega), gr_row hg5 hg2 (fun x hx => (hrow.lt x hx).1) (Nat.le_refl _)⟩
      · go_wp2_with (go_at_call 45; refine (c_l2Good _ Hg.out _).mono ?_; rintro e w9 ⟨rfl, rfl⟩)
        refine (c_pickE b A n c _ 24 (by omega) (by omega) (by omega) hn _ hcur).mono ?_
        rintro e w2 ⟨⟨x2, rfl, l2⟩, h2, g2⟩
        have hrow := RowR.cur hrow g2 hlt
        have hgr := hgr.trans g2
        cases q0 : ((x2 : Int) == 0)
        · cases q1 : ((x2 : Int) == 1)
          · cases q2 : ((x2 : Int) == 2)
            · go_wp2
              go_ret
              exact ⟨⟨_, _, _, _, rfl, by omega, hrow⟩, h2.mono (by omega), hgr⟩
            · go_wp2_with (first | (go_at_call 62; refine (c_l1Most _ _ rfl _).mono ?_; rintro e w1 ⟨rfl, rfl⟩) | (go_at_call 47; refine (c_l2AfterAny _ _ _).mono ?_; rintro e _ ⟨⟨y, rfl⟩, rfl⟩))
              refine (c_amongL b A n c _ _ _ _ _ (by omega) (by omega) (by simp) rfl (by omega) hn _ h2 _ (by simp)).mono ?_
              rintro e w3 ⟨⟨x3, rfl⟩, h3, g3⟩
              have hrow := RowR.cur hrow g3 hlt
              have hg5 := hgr.trans g3
              have hs5 := hg5.size
              go_wp2_with (at_builtin; refine append_Request rfl _ _ rfl _ _ _ _ rfl hrow (⟨_, 2, 0, x3⟩) _ rfl _ rfl rfl ?_ ?_ ?_; omega; exact hs5; intro A2 c2 w2 hrow2 hg2 hmv2)
              go_ret
              exact ⟨⟨_, _, _, _, rfl, by omega, hrow2⟩, (h3.row hg2 (fun x hx => (hrow.lt x hx).1) hlt hA).mono (by omega), gr_row hg5 hg2 (fun x hx => (hrow.lt x hx).1) (Nat.le_refl _)⟩
          · go_wp2_with fail
            refine (c_amongL b A n c _ _ _ _ _ (by omega) (by omega) (by simp) rfl (by omega) hn _ h2 _ (by simp)).mono ?_
            rintro e w3 ⟨⟨x3, rfl⟩, h3, g3⟩
            go_wp2_with fail
            refine (c_amongL b A n c _ _ _ _ _ (by omega) (by omega) (by simp) rfl (by omega) hn _ h3 _ (by simp)).mono ?_
            rintro e w4 ⟨⟨x4, rfl⟩, h4, g4⟩
            have hrow := RowR.cur (RowR.cur hrow g3 hlt) g4 hlt
            have hg5 := (hgr.trans g3).trans g4
            have hs5 := hg5.size
            go_wp2_with (at_builtin; refine append_Request rfl _ _ rfl _ _ _ _ rfl hrow (⟨base, x3, x4, 0⟩) _ rfl _ rfl rfl ?_ ?_ ?_; omega; exact hs5; intro A2 c2 w2 hrow2 hg2 hmv2)
            go_ret
            exact ⟨⟨_, _, _, _, rfl, by omega, hrow2⟩, (h4.row hg2 (fun x hx => (hrow.lt x hx).1) hlt hA).mono (by omega), gr_row hg5 hg2 (fun x hx => (hrow.lt x hx).1) (Nat.le_refl _)⟩
        · go_wp2_with fail
          refine (c_anySerial b A n c _ (by omega) hn _ h2).mono ?_
          rintro e w3 ⟨⟨x3, rfl⟩, h3, g3⟩
          have hrow := RowR.cur hrow g3 hlt
          have hg5 := hgr.trans g3
          have hs5 := hg5.size
          go_wp2_with (at_builtin; refine append_Request rfl _ _ rfl _ _ _ _ rfl hrow (⟨x3, 1, 0, 0⟩) _ rfl _ rfl rfl ?_ ?_ ?_; omega; exact hs5; intro A2 c2 w2 hrow2 hg2 hmv2)
          go_ret
          exact ⟨⟨_, _, _, _, rfl, by omega, hrow2⟩, (h3.row hg2 (fun x hx => (hrow.lt x hx).1) hlt hA).mono (by omega), gr_row hg5 hg2 (fun x hx => (hrow.lt x hx).1) (Nat.le_refl _)⟩
  · have Hg := Lib.hid hg
    have ⟨b0, b1⟩ := inR_iff.1 hg
    go_enter Try.func33, Try.ntmps33
    go_wp2_with fail
    go_loopw [5, 6] (fun v i wr => ∃ (A' : Option Addr) (k d : Nat) (ts : List Request) (j : Nat), v = .slice A' k d ∧ i = .int .i64 j ∧ j ≤ 8 ∧ k ≤ j ∧ Row wr w.heap.size 37 4 Request.cells A' k d ts ∧ CurE b A n c (m + 5 * j) wr ∧ w.grownBy wr (some b)) (fun _ i _ => 8 - (intOf i).toNat)
    case atStart => exact ⟨_, _, _, _, 0, rfl, rfl, by omega, by omega, Row.empty w _ _ _ _ (Nat.le_refl _), h.keep (by (repeat (first | with_reducible assumption | exact Bw.refl _ | (with_reducible refine Bw.setCell ?_ (by simp) _) | (with_reducible refine Bw.alloc ?_ _) | (with_reducible refine Bw.drew ?_) | (with_reducible refine Bw.drewN ?_ _)))), g01⟩
    case round =>
      obtain ⟨A', k, d, ts, j, rfl, rfl, hj, hkj, hrow, hcur, hgr⟩ := hrel
      have hs0 := hgr.size
      by_cases hj8 : (j : Int) < 8
      · go_wp2_with (go_at_call 45; refine (c_l2Good _ Hg.out _).mono ?_; rintro e w9 ⟨rfl, rfl⟩)
        refine (c_oneE b A n c _ 3 (by omega) (by omega) (by omega) hn _ hcur).mono ?_
        rintro e w2 ⟨⟨x2, rfl⟩, h2, g2⟩
        have row2 := RowR.cur hrow g2 hlt
        cases x2
        · go_wp2_with fail
          go_roundw
          case rel => exact ⟨_, _, _, _, j + 1, rfl, by go_num, by omega, by omega, row2, h2.mono (by omega), hgr.trans g2⟩
          case measure => simp [intOf]; omega
        · go_wp2_with (go_at_call 47; refine (c_l2After base j rfl (by omega) (by omega) (by omega) (by omega) _).mono ?_; rintro e w9 ⟨rfl, rfl⟩)
          refine (c_pickE b A n c _ 3 (by omega) (by omega) (by omega) hn _ h2).mono ?_
          rintro e w3 ⟨⟨x3, rfl, l3⟩, h3, g3⟩
          go_wp2_with fail
          refine (c_pickE b A n c _ 12 (by omega) (by omega) (by omega) hn _ h3).mono ?_
          rintro e w4 ⟨⟨x4, rfl, l4⟩, h4, g4⟩
          go_wp2_with fail
          refine (c_pickE b A n c _ 4 (by omega) (by omega) (by omega) hn _ h4).mono ?_
          rintro e w5 ⟨⟨x5, rfl, l5⟩, h5, g5⟩
          have hrow := RowR.cur (RowR.cur (RowR.cur row2 g3 hlt) g4 hlt) g5 hlt
          have hg5 := ((hgr.trans g2).trans g3).trans (g4.trans g5)
          have hs5 := hg5.size
          go_wp2_with (at_builtin; refine append_Request rfl _ _ rfl _ _ _ _ rfl hrow (⟨aftI base j, 1 + x3, 10 + x4, x5⟩) _ rfl _ rfl rfl ?_ ?_ ?_; omega; exact hs5; intro A2 c2 w2 hrow2 hg2 hmv2)
          go_roundw
          case rel => exact ⟨A2, k + 1, c2, _, j + 1, rfl, by go_num, by omega, by omega, hrow2, (h5.row hg2 (fun x hx => (hrow.lt x hx).1) hlt hA).mono (by omega), gr_row hg5 hg2 (fun x hx => (hrow.lt x hx).1) (Nat.le_refl _)⟩
          case measure => simp [intOf]; omega
      · go_wp2_with (go_at_call 45; refine (c_l2Good _ Hg.out _).mono ?_; rintro e w9 ⟨rfl, rfl⟩)
        refine (c_pickE b A n c _ 24 (by omega) (by omega) (by omega) hn _ hcur).mono ?_
        rintro e w2 ⟨⟨x2, rfl, l2⟩, h2, g2⟩
        have hrow := RowR.cur hrow g2 hlt
        have hgr := hgr.trans g2
        cases q0 : ((x2 : Int) == 0)
        · cases q1 : ((x2 : Int) == 1)
          · cases q2 : ((x2 : Int) == 2)
            · go_wp2
              go_ret
              exact ⟨⟨_, _, _, _, rfl, by omega, hrow⟩, h2.mono (by omega), hgr⟩
            · go_wp2_with (first | (go_at_call 62; refine (c_l1Most _ _ rfl _).mono ?_; rintro e w1 ⟨rfl, rfl⟩) | (go_at_call 47; refine (c_l2AfterAny _ _ _).mono ?_; rintro e _ ⟨⟨y, rfl⟩, rfl⟩))
              refine (c_amongL b A n c _ _ _ _ _ (by omega) (by omega) (by simp) rfl (by omega) hn _ h2 _ (by simp)).mono ?_
              rintro e w3 ⟨⟨x3, rfl⟩, h3, g3⟩
              have hrow := RowR.cur hrow g3 hlt
              have hg5 := hgr.trans g3
              have hs5 := hg5.size
              go_wp2_with (at_builtin; refine append_Request rfl _ _ rfl _ _ _ _ rfl hrow (⟨_, 2, 0, x3⟩) _ rfl _ rfl rfl ?_ ?_ ?_; omega; exact hs5; intro A2 c2 w2 hrow2 hg2 hmv2)
              go_ret
              exact ⟨⟨_, _, _, _, rfl, by omega, hrow2⟩, (h3.row hg2 (fun x hx => (hrow.lt x hx).1) hlt hA).mono (by omega), gr_row hg5 hg2 (fun x hx => (hrow.lt x hx).1) (Nat.le_refl _)⟩
          · go_wp2_with fail
            refine (c_amongL b A n c _ _ _ _ _ (by omega) (by omega) (by simp) rfl (by omega) hn _ h2 _ (by simp)).mono ?_
            rintro e w3 ⟨⟨x3, rfl⟩, h3, g3⟩
            go_wp2_with fail
            refine (c_amongL b A n c _ _ _ _ _ (by omega) (by omega) (by simp) rfl (by omega) hn _ h3 _ (by simp)).mono ?_
            rintro e w4 ⟨⟨x4, rfl⟩, h4, g4⟩
            have hrow := RowR.cur (RowR.cur hrow g3 hlt) g4 hlt
            have hg5 := (hgr.trans g3).trans g4
            have hs5 := hg5.size
            go_wp2_with (at_builtin; refine append_Request rfl _ _ rfl _ _ _ _ rfl hrow (⟨base, x3, x4, 0⟩) _ rfl _ rfl rfl ?_ ?_ ?_; omega; exact hs5; intro A2 c2 w2 hrow2 hg2 hmv2)
            go_ret
            exact ⟨⟨_, _, _, _, rfl, by omega, hrow2⟩, (h4.row hg2 (fun x hx => (hrow.lt x hx).1) hlt hA).mono (by omega), gr_row hg5 hg2 (fun x hx => (hrow.lt x hx).1) (Nat.le_refl _)⟩
        · go_wp2_with fail
          refine (c_anySerial b A n c _ (by omega) hn _ h2).mono ?_
          rintro e w3 ⟨⟨x3, rfl⟩, h3, g3⟩
          have hrow := RowR.cur hrow g3 hlt
          have hg5 := hgr.trans g3
          have hs5 := hg5.size
          go_wp2_with (at_builtin; refine append_Request rfl _ _ rfl _ _ _ _ rfl hrow (⟨x3, 1, 0, 0⟩) _ rfl _ rfl rfl ?_ ?_ ?_; omega; exact hs5; intro A2 c2 w2 hrow2 hg2 hmv2)
          go_ret
          exact ⟨⟨_, _, _, _, rfl, by omega, hrow2⟩, (h3.row hg2 (fun x hx => (hrow.lt x hx).1) hlt hA).mono (by omega), gr_row hg5 hg2 (fun x hx => (hrow.lt x hx).1) (Nat.le_refl _)⟩
set_option maxRecDepth 100000 in
theorem c_requested (A' : Option Addr) (k d : Nat) (ts : List Request) (base : Int) (hk : k ≤ 100) (hm : m ≤ 700000) (hn : n ≤ 1000000) (w : World) (h : CurE b A n c m w) (hr : Rd w A' k 4 (ts.map Request.cells)) (hne : ∀ x, A' = some x → x.block ≠ b) :
    Calls Try.prog 52 #[.pointer (some ⟨b, 0, none⟩), .slice A' k d, .int .i64 base] w fun e w' => (∃ x : Int, e = .returned (.int .i64 x)) ∧ CurE b A n c (m + 6) w' ∧ w.grownBy w' (some b) := by
  generalize hg : inR base 0 65535 = rg
  have Hg := Lib.hid hg
  clear hg
  cases q0 : ((k : Int) == 0)
  · have hk0 : 0 < k := by simp at q0; omega
    go_enter Try.func52, Try.ntmps52
    go_wp2_with fail
    refine (c_oneE b A n c _ 3 (by omega) (by omega) (by omega) hn _ h).mono ?_
    rintro e w1 ⟨⟨x1, rfl⟩, h1, g1⟩
    cases x1
    · go_wp2_with fail
      refine (c_pickE b A n c _ k (by omega) (by omega) (by omega) hn _ h1).mono ?_
      rintro e w2 ⟨⟨x2, rfl, l2⟩, h2, g2⟩
      have g12 := g1.trans g2
      obtain ⟨q, off, rfl, hq, hc⟩ := (hr.grown g12 (fun x hx he => hne x hx (Option.some.inj he).symm)).request hk0
      have ⟨t0, t1, t2, t3⟩ := hc x2 (by omega)
      clear hc
      go_wp2
      go_ret
      exact ⟨⟨_, rfl⟩, h2.mono (by omega), g12⟩
    · have hcur := h1
      have gr := g1
      cases rg
      · go_wp2_with (go_at_call 45; refine (c_l2Good _ Hg.out _).mono ?_; rintro e w9 ⟨rfl, rfl⟩)
        refine (c_anySerial b A n c _ (by omega) hn _ hcur).mono ?_
        rintro e w3 ⟨⟨x3, rfl⟩, h3, g3⟩
        go_wp2
        go_ret
        exact ⟨⟨_, rfl⟩, h3.mono (by omega), gr.trans g3⟩
      · go_wp2_with (go_at_call 45; refine (c_l2Good _ Hg.out _).mono ?_; rintro e w9 ⟨rfl, rfl⟩)
        refine (c_oneE b A n c _ 6 (by omega) (by omega) (by omega) hn _ hcur).mono ?_
        rintro e w2 ⟨⟨x2, rfl⟩, h2, g2⟩
        cases x2
        · go_wp2_with fail
          refine (c_pickE b A n c _ 10 (by omega) (by omega) (by omega) hn _ h2).mono ?_
          rintro e w3 ⟨⟨x3, rfl, l3⟩, h3, g3⟩
          go_wp2_with (go_at_call 47; refine (c_l2AfterAny _ _ _).mono ?_; rintro e _ ⟨⟨y, rfl⟩, rfl⟩)
          go_ret
          exact ⟨⟨_, rfl⟩, h3.mono (by omega), (gr.trans g2).trans g3⟩
        · go_wp2_with fail
          refine (c_anySerial b A n c _ (by omega) hn _ h2).mono ?_
          rintro e w3 ⟨⟨x3, rfl⟩, h3, g3⟩
          go_wp2
          go_ret
          exact ⟨⟨_, rfl⟩, h3.mono (by omega), (gr.trans g2).trans g3⟩
  · have hcur := h.mono (show m ≤ m + 1 by omega)
    have gr := World.grownBy.refl w (some b)
    go_enter Try.func52, Try.ntmps52
    cases rg
    · go_wp2_with (go_at_call 45; refine (c_l2Good _ Hg.out _).mono ?_; rintro e w9 ⟨rfl, rfl⟩)
      refine (c_anySerial b A n c _ (by omega) hn _ hcur).mono ?_
      rintro e w3 ⟨⟨x3, rfl⟩, h3, g3⟩
      go_wp2
      go_ret
      exact ⟨⟨_, rfl⟩, h3.mono (by omega), gr.trans g3⟩
    · go_wp2_with (go_at_call 45; refine (c_l2Good _ Hg.out _).mono ?_; rintro e w9 ⟨rfl, rfl⟩)
      refine (c_oneE b A n c _ 6 (by omega) (by omega) (by omega) hn _ hcur).mono ?_
      rintro e w2 ⟨⟨x2, rfl⟩, h2, g2⟩
      cases x2
      · go_wp2_with fail
        refine (c_pickE b A n c _ 10 (by omega) (by omega) (by omega) hn _ h2).mono ?_
        rintro e w3 ⟨⟨x3, rfl, l3⟩, h3, g3⟩
        go_wp2_with (go_at_call 47; refine (c_l2AfterAny _ _ _).mono ?_; rintro e _ ⟨⟨y, rfl⟩, rfl⟩)
        go_ret
        exact ⟨⟨_, rfl⟩, h3.mono (by omega), (gr.trans g2).trans g3⟩
      · go_wp2_with fail
        refine (c_anySerial b A n c _ (by omega) hn _ h2).mono ?_
        rintro e w3 ⟨⟨x3, rfl⟩, h3, g3⟩
        go_wp2
        go_ret
        exact ⟨⟨_, rfl⟩, h3.mono (by omega), (gr.trans g2).trans g3⟩
end
end Go.Proofs.Ytnejeigcdogolaa
