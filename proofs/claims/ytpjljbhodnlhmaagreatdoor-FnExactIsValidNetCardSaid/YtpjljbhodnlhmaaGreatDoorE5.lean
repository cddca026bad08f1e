
/- Elements: the program's test of one; the searches. -/
import Derived.Test.YtpjljbhodnlhmaaGreatDoorE4
namespace Go.Proofs.YtpjljbhodnlhmaaGreatDoor
open Go.RowKit
theorem c_cloSame (num unt : Int) (A : Option Addr) (n c : Nat) (q : Nat) (x : Int) {r : Bool} (hr : (num == x) = r) (w : World) (hq : w.cell? ⟨q, 0, none⟩ = some (.int .i64 x)) :
    Calls Tryz.prog 139 #[.agg #[.int .i64 num, .slice A n c, .int .i64 unt], .pointer (some ⟨q, 0, none⟩)] w fun e w' => e = .returned (.bool r) ∧ Bw w w' := by
  have hlt := World.block_lt_of_cell? w _ hq
  dsimp only at hlt
  go_enter Tryz.func139, Tryz.ntmps139
  go_wp2
  go_ret
  exact ⟨rfl, by (repeat (first | with_reducible assumption | exact Bw.refl _ | (with_reducible refine Bw.setCell ?_ (by simp) _) | (with_reducible refine Bw.alloc ?_ _) | (with_reducible refine Bw.drew ?_) | (with_reducible refine Bw.drewN ?_ _)))⟩
set_option maxRecDepth 100000 in
theorem c_IndexFuncSame (A : Option Addr) (n m d : Nat) (es : List Ev) (ts : List Ent) (x : Int) (q : Nat) {mm : Int} (hmm : posN es m x = mm) (w : World) (hm : m ≤ n) (hn : n ≤ 9223372036854775807) (h : RdE w A n es ts) (hq : w.cell? ⟨q, 0, none⟩ = some (.int .i64 x)) :
    Calls Tryz.prog 164 #[.slice A m d, .func (.func 139) #[] #[.pointer (some ⟨q, 0, none⟩)]] w fun e w' => e = .returned (.int .i64 mm) ∧ Bw w w' := by
  subst hmm
  go_enter Tryz.func164, Tryz.ntmps164
  go_wp2
  go_loopw [8] (fun i wr => ∃ k : Nat, k ≤ m ∧ i = .int .i64 k ∧ (∀ j, j < k → (evAt es j).num ≠ x) ∧ Bw w wr) (fun i _ => m - (intOf i).toNat)
  case atStart => exact ⟨0, Nat.zero_le _, rfl, fun j hj => absurd hj (by omega), Bw.refl _⟩
  case round =>
    obtain ⟨k, hk, rfl, hst, hbl⟩ := hrel
    have Hst := Lib.hid hst
    clear hst
    have q2 := hbl.cellv hq
    by_cases hkn : k < m
    · obtain ⟨b, off, rfl, hb, hc⟩ := (h.keep hbl).at_ (by omega)
      have ⟨h0, h1, h2⟩ := hc k (by omega)
      clear hc
      cases hpp : ((evAt es k).num == x)
      · have Hp := Lib.hid hpp
        clear hpp
        go_wp2_with (go_at_call 139; refine (c_cloSame _ _ _ _ _ q x Hp.out _ q2).mono ?_; rintro e w1 ⟨rfl, hb1⟩)
        go_roundw
        case rel => exact ⟨k + 1, by omega, by go_num, snoc_lt Hst.out (by simpa using Hp.out), hbl.trans hb1⟩
        case measure => simp [intOf]; omega
      · have Hp := Lib.hid hpp
        clear hpp
        go_wp2_with (go_at_call 139; refine (c_cloSame _ _ _ _ _ q x Hp.out _ q2).mono ?_; rintro e w1 ⟨rfl, hb1⟩)
        go_ret
        exact ⟨ret_int (posN_at hkn (by simpa using Hp.out) Hst.out).symm, hbl.trans hb1⟩
    · go_wp2
      go_ret
      exact ⟨ret_int (posN_none (fun j hj => Hst.out j (by omega))).symm, hbl⟩
theorem c_ContainsFuncSame (A : Option Addr) (n m d : Nat) (es : List Ev) (ts : List Ent) (x : Int) (q : Nat) {r : Bool} (hr : decide (0 ≤ posN es m x) = r) (w : World) (hm : m ≤ n) (hn : n ≤ 9223372036854775807) (h : RdE w A n es ts) (hq : w.cell? ⟨q, 0, none⟩ = some (.int .i64 x)) :
    Calls Tryz.prog 138 #[.slice A m d, .func (.func 139) #[] #[.pointer (some ⟨q, 0, none⟩)]] w fun e w' => e = .returned (.bool r) ∧ Bw w w' := by
  subst hr
  generalize hmx : posN es m x = mm
  have HM := Lib.hid hmx
  clear hmx
  go_enter Tryz.func138, Tryz.ntmps138
  go_wp2_with (go_at_call 164; refine (c_IndexFuncSame _ n _ _ es ts x q HM.out _ hm hn h hq).mono ?_; rintro e w1 ⟨rfl, hb1⟩)
  go_ret
  exact ⟨rfl, hb1⟩
set_option maxRecDepth 100000 in
set_option maxHeartbeats 1000000 in
theorem c_IsValidElement (ck : Int) (A : Option Addr) (n c : Nat) (es : List Ev) (ts : List Ent) {r : Bool} (hr : elB ck es = r) (w : World) (hm : n ≤ 9223372036854775807) (hcap : n ≤ c) (h : RdE w A n es ts) :
    Calls Tryz.prog 96 #[.agg #[.int .i64 ck, .slice A n c]] w fun e w' => e = .returned (.bool r) ∧ Bw w w' := by
  subst hr
  have hl := Lib.hid h.len
  have hbx : Bw w (w.alloc (.cells #[.int .i64 ck, .slice A n c] 89)) := Bw.alloc (Bw.refl _) _
  cases hk : inR ck 0 9999
  · have HK := Lib.hid hk
    have HR := Lib.hid (show elB ck es = false by simp [elB, hk])
    rw [HR.out]
    clear hk
    go_enter Tryz.func96, Tryz.ntmps96
    go_wp2
    go_loopw [8] (fun i wr => ∃ k : Nat, k ≤ n ∧ i = .int .i64 k ∧ Bw (w.alloc (.cells #[.int .i64 ck, .slice A n c] 89)) wr) (fun i _ => n - (intOf i).toNat)
    case atStart => exact ⟨0, Nat.zero_le _, rfl, Bw.refl _⟩
    case round =>
      obtain ⟨k, hk, rfl, hbl⟩ := hrel
      have hbw := hbx.trans hbl
      have b0 := hbl.cellv (p := ⟨w.heap.size, 0, none⟩) (v := .int .i64 ck) (by go_simp)
      have b1 := hbl.cellv (p := ⟨w.heap.size, 1, none⟩) (v := .slice A n c) (by go_simp)
      by_cases hlt : k < n
      · have HH := Lib.hid (h.keep hbw)
        obtain ⟨b, off, rfl, hb, hc⟩ := HH.out.at_ (by omega)
        have ⟨q0, q1, q2⟩ := hc k hlt
        have HI := Lib.hid (HH.out.ints hlt)
        have HM := Lib.hid (show (entAt ts k).n ≤ 9223372036854775807 by have := (HH.out.fs k hlt).2; unfold maxLen at this; omega)
        clear hc
        cases ho1 : inR (evAt es k).num 0 65535
        · go_wp2_with (first | (go_at_call 86; refine (c_IsSerial _ ho1 _).mono ?_; rintro e w1 ⟨rfl, rfl⟩) | (go_at_call 137; refine (c_areFaces _ _ _ _ ho2 _ HM.out (HI.out.keep (by (repeat (first | with_reducible assumption | exact Bw.refl _ | (with_reducible refine Bw.setCell ?_ (by simp) _) | (with_reducible refine Bw.alloc ?_ _) | (with_reducible refine Bw.drew ?_) | (with_reducible refine Bw.drewN ?_ _)))))).mono ?_; rintro e w2 ⟨rfl, hb2⟩; have x0 := hb2.cellv (p := ⟨wr.heap.size, 0, none⟩) (v := .int .i64 (evAt es k).num) (by go_simp); have x2 := hb2.cellv (p := ⟨wr.heap.size, 2, none⟩) (v := .int .i64 (evAt es k).unt) (by go_simp); have k2 := (Bw.alloc (Bw.refl wr) _).trans hb2; have c0 := k2.cellv b0; have c1 := k2.cellv b1; have z2 := World.block_lt_of_cell? _ _ x0; have z1 := World.block_lt_of_cell? _ _ c0; dsimp only at z1 z2) | (go_at_call 54; refine (c_within _ _ _ ho3 _).mono ?_; rintro e w1 ⟨rfl, rfl⟩) | (go_at_call 138; refine (c_ContainsFuncSame _ n _ _ es ts _ wr.heap.size ho4 _ (by omega) hm (h.keep (hbw.trans k2)) x0).mono ?_; rintro e w3 ⟨rfl, hb3⟩))
          go_ret
          exact ⟨rfl, hbw.trans (by (repeat (first | with_reducible assumption | exact Bw.refl _ | (with_reducible refine Bw.setCell ?_ (by simp) _) | (with_reducible refine Bw.alloc ?_ _) | (with_reducible refine Bw.drew ?_) | (with_reducible refine Bw.drewN ?_ _))))⟩
        · cases hz : (((entAt ts k).n : Int) == 0)
          · cases ho2 : riseB 1 7 (evAt es k).fs
            · go_wp2_with (first | (go_at_call 86; refine (c_IsSerial _ ho1 _).mono ?_; rintro e w1 ⟨rfl, rfl⟩) | (go_at_call 137; refine (c_areFaces _ _ _ _ ho2 _ HM.out (HI.out.keep (by (repeat (first | with_reducible assumption | exact Bw.refl _ | (with_reducible refine Bw.setCell ?_ (by simp) _) | (with_reducible refine Bw.alloc ?_ _) | (with_reducible refine Bw.drew ?_) | (with_reducible refine Bw.drewN ?_ _)))))).mono ?_; rintro e w2 ⟨rfl, hb2⟩; have x0 := hb2.cellv (p := ⟨wr.heap.size, 0, none⟩) (v := .int .i64 (evAt es k).num) (by go_simp); have x2 := hb2.cellv (p := ⟨wr.heap.size, 2, none⟩) (v := .int .i64 (evAt es k).unt) (by go_simp); have k2 := (Bw.alloc (Bw.refl wr) _).trans hb2; have c0 := k2.cellv b0; have c1 := k2.cellv b1; have z2 := World.block_lt_of_cell? _ _ x0; have z1 := World.block_lt_of_cell? _ _ c0; dsimp only at z1 z2) | (go_at_call 54; refine (c_within _ _ _ ho3 _).mono ?_; rintro e w1 ⟨rfl, rfl⟩) | (go_at_call 138; refine (c_ContainsFuncSame _ n _ _ es ts _ wr.heap.size ho4 _ (by omega) hm (h.keep (hbw.trans k2)) x0).mono ?_; rintro e w3 ⟨rfl, hb3⟩))
              go_ret
              exact ⟨rfl, hbw.trans k2⟩
            · cases ho3 : inR (evAt es k).unt (wrap64 (ck + 1)) (wrap64 (ck + 6))
              · go_wp2_with (first | (go_at_call 86; refine (c_IsSerial _ ho1 _).mono ?_; rintro e w1 ⟨rfl, rfl⟩) | (go_at_call 137; refine (c_areFaces _ _ _ _ ho2 _ HM.out (HI.out.keep (by (repeat (first | with_reducible assumption | exact Bw.refl _ | (with_reducible refine Bw.setCell ?_ (by simp) _) | (with_reducible refine Bw.alloc ?_ _) | (with_reducible refine Bw.drew ?_) | (with_reducible refine Bw.drewN ?_ _)))))).mono ?_; rintro e w2 ⟨rfl, hb2⟩; have x0 := hb2.cellv (p := ⟨wr.heap.size, 0, none⟩) (v := .int .i64 (evAt es k).num) (by go_simp); have x2 := hb2.cellv (p := ⟨wr.heap.size, 2, none⟩) (v := .int .i64 (evAt es k).unt) (by go_simp); have k2 := (Bw.alloc (Bw.refl wr) _).trans hb2; have c0 := k2.cellv b0; have c1 := k2.cellv b1; have z2 := World.block_lt_of_cell? _ _ x0; have z1 := World.block_lt_of_cell? _ _ c0; dsimp only at z1 z2) | (go_at_call 54; refine (c_within _ _ _ ho3 _).mono ?_; rintro e w1 ⟨rfl, rfl⟩) | (go_at_call 138; refine (c_ContainsFuncSame _ n _ _ es ts _ wr.heap.size ho4 _ (by omega) hm (h.keep (hbw.trans k2)) x0).mono ?_; rintro e w3 ⟨rfl, hb3⟩))
                go_ret
                exact ⟨rfl, hbw.trans k2⟩
              · cases ho4 : decide (0 ≤ posN es k (evAt es k).num)
                · go_wp2_with (first | (go_at_call 86; refine (c_IsSerial _ ho1 _).mono ?_; rintro e w1 ⟨rfl, rfl⟩) | (go_at_call 137; refine (c_areFaces _ _ _ _ ho2 _ HM.out (HI.out.keep (by (repeat (first | with_reducible assumption | exact Bw.refl _ | (with_reducible refine Bw.setCell ?_ (by simp) _) | (with_reducible refine Bw.alloc ?_ _) | (with_reducible refine Bw.drew ?_) | (with_reducible refine Bw.drewN ?_ _)))))).mono ?_; rintro e w2 ⟨rfl, hb2⟩; have x0 := hb2.cellv (p := ⟨wr.heap.size, 0, none⟩) (v := .int .i64 (evAt es k).num) (by go_simp); have x2 := hb2.cellv (p := ⟨wr.heap.size, 2, none⟩) (v := .int .i64 (evAt es k).unt) (by go_simp); have k2 := (Bw.alloc (Bw.refl wr) _).trans hb2; have c0 := k2.cellv b0; have c1 := k2.cellv b1; have z2 := World.block_lt_of_cell? _ _ x0; have z1 := World.block_lt_of_cell? _ _ c0; dsimp only at z1 z2) | (go_at_call 54; refine (c_within _ _ _ ho3 _).mono ?_; rintro e w1 ⟨rfl, rfl⟩) | (go_at_call 138; refine (c_ContainsFuncSame _ n _ _ es ts _ wr.heap.size ho4 _ (by omega) hm (h.keep (hbw.trans k2)) x0).mono ?_; rintro e w3 ⟨rfl, hb3⟩))
                  go_roundw
                  case rel => exact ⟨k + 1, by omega, by go_num, (hbl.trans k2).trans hb3⟩
                  case measure => simp [intOf]; omega
                · go_wp2_with (first | (go_at_call 86; refine (c_IsSerial _ ho1 _).mono ?_; rintro e w1 ⟨rfl, rfl⟩) | (go_at_call 137; refine (c_areFaces _ _ _ _ ho2 _ HM.out (HI.out.keep (by (repeat (first | with_reducible assumption | exact Bw.refl _ | (with_reducible refine Bw.setCell ?_ (by simp) _) | (with_reducible refine Bw.alloc ?_ _) | (with_reducible refine Bw.drew ?_) | (with_reducible refine Bw.drewN ?_ _)))))).mono ?_; rintro e w2 ⟨rfl, hb2⟩; have x0 := hb2.cellv (p := ⟨wr.heap.size, 0, none⟩) (v := .int .i64 (evAt es k).num) (by go_simp); have x2 := hb2.cellv (p := ⟨wr.heap.size, 2, none⟩) (v := .int .i64 (evAt es k).unt) (by go_simp); have k2 := (Bw.alloc (Bw.refl wr) _).trans hb2; have c0 := k2.cellv b0; have c1 := k2.cellv b1; have z2 := World.block_lt_of_cell? _ _ x0; have z1 := World.block_lt_of_cell? _ _ c0; dsimp only at z1 z2) | (go_at_call 54; refine (c_within _ _ _ ho3 _).mono ?_; rintro e w1 ⟨rfl, rfl⟩) | (go_at_call 138; refine (c_ContainsFuncSame _ n _ _ es ts _ wr.heap.size ho4 _ (by omega) hm (h.keep (hbw.trans k2)) x0).mono ?_; rintro e w3 ⟨rfl, hb3⟩))
                  go_ret
                  exact ⟨rfl, (hbw.trans k2).trans hb3⟩
          · go_wp2_with (first | (go_at_call 86; refine (c_IsSerial _ ho1 _).mono ?_; rintro e w1 ⟨rfl, rfl⟩) | (go_at_call 137; refine (c_areFaces _ _ _ _ ho2 _ HM.out (HI.out.keep (by (repeat (first | with_reducible assumption | exact Bw.refl _ | (with_reducible refine Bw.setCell ?_ (by simp) _) | (with_reducible refine Bw.alloc ?_ _) | (with_reducible refine Bw.drew ?_) | (with_reducible refine Bw.drewN ?_ _)))))).mono ?_; rintro e w2 ⟨rfl, hb2⟩; have x0 := hb2.cellv (p := ⟨wr.heap.size, 0, none⟩) (v := .int .i64 (evAt es k).num) (by go_simp); have x2 := hb2.cellv (p := ⟨wr.heap.size, 2, none⟩) (v := .int .i64 (evAt es k).unt) (by go_simp); have k2 := (Bw.alloc (Bw.refl wr) _).trans hb2; have c0 := k2.cellv b0; have c1 := k2.cellv b1; have z2 := World.block_lt_of_cell? _ _ x0; have z1 := World.block_lt_of_cell? _ _ c0; dsimp only at z1 z2) | (go_at_call 54; refine (c_within _ _ _ ho3 _).mono ?_; rintro e w1 ⟨rfl, rfl⟩) | (go_at_call 138; refine (c_ContainsFuncSame _ n _ _ es ts _ wr.heap.size ho4 _ (by omega) hm (h.keep (hbw.trans k2)) x0).mono ?_; rintro e w3 ⟨rfl, hb3⟩))
            go_ret
            exact ⟨rfl, hbw.trans (by (repeat (first | with_reducible assumption | exact Bw.refl _ | (with_reducible refine Bw.setCell ?_ (by simp) _) | (with_reducible refine Bw.alloc ?_ _) | (with_reducible refine Bw.drew ?_) | (with_reducible refine Bw.drewN ?_ _))))⟩
      · go_wp2_with (go_at_call 85; refine (c_isClock _ HK.out _).mono ?_; rintro e w1 ⟨rfl, rfl⟩)
        go_ret
        exact ⟨rfl, hbw⟩
  · have HK := Lib.hid hk
    have ⟨k0, k1⟩ := inR_iff.1 hk
    clear hk
    go_enter Tryz.func96, Tryz.ntmps96
    go_wp2
    go_loopw [8] (fun i wr => ∃ k : Nat, k ≤ n ∧ i = .int .i64 k ∧ (∀ j, j < k → oneE ck es j = true) ∧ Bw (w.alloc (.cells #[.int .i64 ck, .slice A n c] 89)) wr) (fun i _ => n - (intOf i).toNat)
    case atStart => exact ⟨0, Nat.zero_le _, rfl, fun j hj => absurd hj (by omega), Bw.refl _⟩
    case round =>
      obtain ⟨k, hk, rfl, hst, hbl⟩ := hrel
      have Hst := Lib.hid hst
      clear hst
      have hbw := hbx.trans hbl
      have b0 := hbl.cellv (p := ⟨w.heap.size, 0, none⟩) (v := .int .i64 ck) (by go_simp)
      have b1 := hbl.cellv (p := ⟨w.heap.size, 1, none⟩) (v := .slice A n c) (by go_simp)
      by_cases hlt : k < n
      · have HH := Lib.hid (h.keep hbw)
        obtain ⟨b, off, rfl, hb, hc⟩ := HH.out.at_ (by omega)
        have ⟨q0, q1, q2⟩ := hc k hlt
        have HI := Lib.hid (HH.out.ints hlt)
        have HM := Lib.hid (show (entAt ts k).n ≤ 9223372036854775807 by have := (HH.out.fs k hlt).2; unfold maxLen at this; omega)
        have HL := Lib.hid (HI.out.ilen)
        have Hf := Lib.hid (fun hh => elB_false (ck := ck) (es := es) (k := k) (by rw [hl.out]; exact hlt) hh)
        clear hc
        cases ho1 : inR (evAt es k).num 0 65535
        · go_wp2_with (first | (go_at_call 86; refine (c_IsSerial _ ho1 _).mono ?_; rintro e w1 ⟨rfl, rfl⟩) | (go_at_call 137; refine (c_areFaces _ _ _ _ ho2 _ HM.out (HI.out.keep (by (repeat (first | with_reducible assumption | exact Bw.refl _ | (with_reducible refine Bw.setCell ?_ (by simp) _) | (with_reducible refine Bw.alloc ?_ _) | (with_reducible refine Bw.drew ?_) | (with_reducible refine Bw.drewN ?_ _)))))).mono ?_; rintro e w2 ⟨rfl, hb2⟩; have x0 := hb2.cellv (p := ⟨wr.heap.size, 0, none⟩) (v := .int .i64 (evAt es k).num) (by go_simp); have x2 := hb2.cellv (p := ⟨wr.heap.size, 2, none⟩) (v := .int .i64 (evAt es k).unt) (by go_simp); have k2 := (Bw.alloc (Bw.refl wr) _).trans hb2; have c0 := k2.cellv b0; have c1 := k2.cellv b1; have z2 := World.block_lt_of_cell? _ _ x0; have z1 := World.block_lt_of_cell? _ _ c0; dsimp only at z1 z2) | (go_at_call 54; refine (c_within _ _ _ ho3 _).mono ?_; rintro e w1 ⟨rfl, rfl⟩) | (go_at_call 138; refine (c_ContainsFuncSame _ n _ _ es ts _ wr.heap.size ho4 _ (by omega) hm (h.keep (hbw.trans k2)) x0).mono ?_; rintro e w3 ⟨rfl, hb3⟩))
          go_ret
          exact ⟨ret_bool (Hf.out (by simp [oneE, ho1])).symm, hbw.trans (by (repeat (first | with_reducible assumption | exact Bw.refl _ | (with_reducible refine Bw.setCell ?_ (by simp) _) | (with_reducible refine Bw.alloc ?_ _) | (with_reducible refine Bw.drew ?_) | (with_reducible refine Bw.drewN ?_ _))))⟩
        · cases hz : (((entAt ts k).n : Int) == 0)
          · have HZ := Lib.hid (show decide ((evAt es k).fs.length = 0) = false by rw [HL.out]; simp at hz ⊢; omega)
            cases ho2 : riseB 1 7 (evAt es k).fs
            · go_wp2_with (first | (go_at_call 86; refine (c_IsSerial _ ho1 _).mono ?_; rintro e w1 ⟨rfl, rfl⟩) | (go_at_call 137; refine (c_areFaces _ _ _ _ ho2 _ HM.out (HI.out.keep (by (repeat (first | with_reducible assumption | exact Bw.refl _ | (with_reducible refine Bw.setCell ?_ (by simp) _) | (with_reducible refine Bw.alloc ?_ _) | (with_reducible refine Bw.drew ?_) | (with_reducible refine Bw.drewN ?_ _)))))).mono ?_; rintro e w2 ⟨rfl, hb2⟩; have x0 := hb2.cellv (p := ⟨wr.heap.size, 0, none⟩) (v := .int .i64 (evAt es k).num) (by go_simp); have x2 := hb2.cellv (p := ⟨wr.heap.size, 2, none⟩) (v := .int .i64 (evAt es k).unt) (by go_simp); have k2 := (Bw.alloc (Bw.refl wr) _).trans hb2; have c0 := k2.cellv b0; have c1 := k2.cellv b1; have z2 := World.block_lt_of_cell? _ _ x0; have z1 := World.block_lt_of_cell? _ _ c0; dsimp only at z1 z2) | (go_at_call 54; refine (c_within _ _ _ ho3 _).mono ?_; rintro e w1 ⟨rfl, rfl⟩) | (go_at_call 138; refine (c_ContainsFuncSame _ n _ _ es ts _ wr.heap.size ho4 _ (by omega) hm (h.keep (hbw.trans k2)) x0).mono ?_; rintro e w3 ⟨rfl, hb3⟩))
              go_ret
              exact ⟨ret_bool (Hf.out (by simp [oneE, ho2])).symm, hbw.trans k2⟩
            · cases ho3 : inR (evAt es k).unt (ck + 1) (ck + 6)
              · go_wp2_with (first | (go_at_call 86; refine (c_IsSerial _ ho1 _).mono ?_; rintro e w1 ⟨rfl, rfl⟩) | (go_at_call 137; refine (c_areFaces _ _ _ _ ho2 _ HM.out (HI.out.keep (by (repeat (first | with_reducible assumption | exact Bw.refl _ | (with_reducible refine Bw.setCell ?_ (by simp) _) | (with_reducible refine Bw.alloc ?_ _) | (with_reducible refine Bw.drew ?_) | (with_reducible refine Bw.drewN ?_ _)))))).mono ?_; rintro e w2 ⟨rfl, hb2⟩; have x0 := hb2.cellv (p := ⟨wr.heap.size, 0, none⟩) (v := .int .i64 (evAt es k).num) (by go_simp); have x2 := hb2.cellv (p := ⟨wr.heap.size, 2, none⟩) (v := .int .i64 (evAt es k).unt) (by go_simp); have k2 := (Bw.alloc (Bw.refl wr) _).trans hb2; have c0 := k2.cellv b0; have c1 := k2.cellv b1; have z2 := World.block_lt_of_cell? _ _ x0; have z1 := World.block_lt_of_cell? _ _ c0; dsimp only at z1 z2) | (go_at_call 54; refine (c_within _ _ _ ho3 _).mono ?_; rintro e w1 ⟨rfl, rfl⟩) | (go_at_call 138; refine (c_ContainsFuncSame _ n _ _ es ts _ wr.heap.size ho4 _ (by omega) hm (h.keep (hbw.trans k2)) x0).mono ?_; rintro e w3 ⟨rfl, hb3⟩))
                go_ret
                exact ⟨ret_bool (Hf.out (by simp [oneE, ho3])).symm, hbw.trans k2⟩
              · cases ho4 : decide (0 ≤ posN es k (evAt es k).num)
                · have HO := Lib.hid (show oneE ck es k = true by simp only [oneE, ho1, ho2, ho3, HZ.out, ho4]; simp)
                  go_wp2_with (first | (go_at_call 86; refine (c_IsSerial _ ho1 _).mono ?_; rintro e w1 ⟨rfl, rfl⟩) | (go_at_call 137; refine (c_areFaces _ _ _ _ ho2 _ HM.out (HI.out.keep (by (repeat (first | with_reducible assumption | exact Bw.refl _ | (with_reducible refine Bw.setCell ?_ (by simp) _) | (with_reducible refine Bw.alloc ?_ _) | (with_reducible refine Bw.drew ?_) | (with_reducible refine Bw.drewN ?_ _)))))).mono ?_; rintro e w2 ⟨rfl, hb2⟩; have x0 := hb2.cellv (p := ⟨wr.heap.size, 0, none⟩) (v := .int .i64 (evAt es k).num) (by go_simp); have x2 := hb2.cellv (p := ⟨wr.heap.size, 2, none⟩) (v := .int .i64 (evAt es k).unt) (by go_simp); have k2 := (Bw.alloc (Bw.refl wr) _).trans hb2; have c0 := k2.cellv b0; have c1 := k2.cellv b1; have z2 := World.block_lt_of_cell? _ _ x0; have z1 := World.block_lt_of_cell? _ _ c0; dsimp only at z1 z2) | (go_at_call 54; refine (c_within _ _ _ ho3 _).mono ?_; rintro e w1 ⟨rfl, rfl⟩) | (go_at_call 138; refine (c_ContainsFuncSame _ n _ _ es ts _ wr.heap.size ho4 _ (by omega) hm (h.keep (hbw.trans k2)) x0).mono ?_; rintro e w3 ⟨rfl, hb3⟩))
                  go_roundw
                  case rel => exact ⟨k + 1, by omega, by go_num, snoc_lt Hst.out HO.out, (hbl.trans k2).trans hb3⟩
                  case measure => simp [intOf]; omega
                · have HO := Lib.hid (show oneE ck es k = false by simp only [oneE, ho4]; simp)
                  go_wp2_with (first | (go_at_call 86; refine (c_IsSerial _ ho1 _).mono ?_; rintro e w1 ⟨rfl, rfl⟩) | (go_at_call 137; refine (c_areFaces _ _ _ _ ho2 _ HM.out (HI.out.keep (by (repeat (first | with_reducible assumption | exact Bw.refl _ | (with_reducible refine Bw.setCell ?_ (by simp) _) | (with_reducible refine Bw.alloc ?_ _) | (with_reducible refine Bw.drew ?_) | (with_reducible refine Bw.drewN ?_ _)))))).mono ?_; rintro e w2 ⟨rfl, hb2⟩; have x0 := hb2.cellv (p := ⟨wr.heap.size, 0, none⟩) (v := .int .i64 (evAt es k).num) (by go_simp); have x2 := hb2.cellv (p := ⟨wr.heap.size, 2, none⟩) (v := .int .i64 (evAt es k).unt) (by go_simp); have k2 := (Bw.alloc (Bw.refl wr) _).trans hb2; have c0 := k2.cellv b0; have c1 := k2.cellv b1; have z2 := World.block_lt_of_cell? _ _ x0; have z1 := World.block_lt_of_cell? _ _ c0; dsimp only at z1 z2) | (go_at_call 54; refine (c_within _ _ _ ho3 _).mono ?_; rintro e w1 ⟨rfl, rfl⟩) | (go_at_call 138; refine (c_ContainsFuncSame _ n _ _ es ts _ wr.heap.size ho4 _ (by omega) hm (h.keep (hbw.trans k2)) x0).mono ?_; rintro e w3 ⟨rfl, hb3⟩))
                  go_ret
                  exact ⟨ret_bool (Hf.out HO.out).symm, (hbw.trans k2).trans hb3⟩
          · have HZ := Lib.hid (show decide ((evAt es k).fs.length = 0) = true by rw [HL.out]; simp at hz ⊢; omega)
            go_wp2_with (first | (go_at_call 86; refine (c_IsSerial _ ho1 _).mono ?_; rintro e w1 ⟨rfl, rfl⟩) | (go_at_call 137; refine (c_areFaces _ _ _ _ ho2 _ HM.out (HI.out.keep (by (repeat (first | with_reducible assumption | exact Bw.refl _ | (with_reducible refine Bw.setCell ?_ (by simp) _) | (with_reducible refine Bw.alloc ?_ _) | (with_reducible refine Bw.drew ?_) | (with_reducible refine Bw.drewN ?_ _)))))).mono ?_; rintro e w2 ⟨rfl, hb2⟩; have x0 := hb2.cellv (p := ⟨wr.heap.size, 0, none⟩) (v := .int .i64 (evAt es k).num) (by go_simp); have x2 := hb2.cellv (p := ⟨wr.heap.size, 2, none⟩) (v := .int .i64 (evAt es k).unt) (by go_simp); have k2 := (Bw.alloc (Bw.refl wr) _).trans hb2; have c0 := k2.cellv b0; have c1 := k2.cellv b1; have z2 := World.block_lt_of_cell? _ _ x0; have z1 := World.block_lt_of_cell? _ _ c0; dsimp only at z1 z2) | (go_at_call 54; refine (c_within _ _ _ ho3 _).mono ?_; rintro e w1 ⟨rfl, rfl⟩) | (go_at_call 138; refine (c_ContainsFuncSame _ n _ _ es ts _ wr.heap.size ho4 _ (by omega) hm (h.keep (hbw.trans k2)) x0).mono ?_; rintro e w3 ⟨rfl, hb3⟩))
            go_ret
            exact ⟨ret_bool (Hf.out (by simp only [oneE, HZ.out]; simp)).symm, hbw.trans (by (repeat (first | with_reducible assumption | exact Bw.refl _ | (with_reducible refine Bw.setCell ?_ (by simp) _) | (with_reducible refine Bw.alloc ?_ _) | (with_reducible refine Bw.drew ?_) | (with_reducible refine Bw.drewN ?_ _))))⟩
      · go_wp2_with (go_at_call 85; refine (c_isClock _ HK.out _).mono ?_; rintro e w1 ⟨rfl, rfl⟩)
        go_ret
        exact ⟨ret_bool (by rw [elB_true HK.out (by rw [hl.out]; intro j hj; exact Hst.out j (by omega)), hl.out]; exact decide_eq_decide.2 (by omega)), hbw⟩
end Go.Proofs.YtpjljbhodnlhmaaGreatDoor
