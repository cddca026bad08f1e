
/- Sources: the law's own helpers. -/
import Derived.Test.YtpjljbhodnlhmaaGreatDoorT9
namespace Go.Proofs.YtpjljbhodnlhmaaGreatDoor
open Go.RowKit
theorem c_szHoldSL (A : Option Addr) (n c : Nat) (L : Int) (h0 : 0 ≤ L) (h1 : L ≤ 1048576) (hm : n ≤ 9223372036854775807) (w : World) : Calls Tryz.prog 74 #[.slice A n c, .int .i64 L] w fun e w' => (∃ m : Int, e = .returned (.int .i64 m) ∧ (m < 0 ∨ n ≤ 1048576)) ∧ w = w' := by
  go_enter Tryz.func74, Tryz.ntmps74
  by_cases h : (n : Int) ≤ L
  all_goals
    go_wp2
    go_ret
    refine ⟨⟨_, rfl, by omega⟩, rfl⟩
theorem c_szSource (t z : Int) (A : Option Addr) (n c : Nat) (ss : List ByteArray) (hf : fitS ss) (ck q : Int) (B : Option Addr) (m d : Nat) (hn : n ≤ 9223372036854775807) (hm : m ≤ 9223372036854775807) (w : World) (h : Rd w A n 1 (ss.map scell)) : Calls Tryz.prog 41 #[.agg #[.int .i64 t, .int .i64 z, .slice A n c, .int .i64 ck, .int .i64 q, .slice B m d], .int .i64 1048576] w fun e w' => (∃ x : Int, e = .returned (.int .i64 x) ∧ (x < 0 ∨ (n ≤ 1048576 ∧ m ≤ 1048576))) ∧ Bw w w' := by
  have hbx : Bw w (w.alloc (.cells #[.int .i64 t, .int .i64 z, .slice A n c, .int .i64 ck, .int .i64 q, .slice B m d] 49)) := Bw.alloc (Bw.refl _) _
  go_enter Tryz.func41, Tryz.ntmps41
  go_wp2_with (go_at_call 73; refine (c_szSendWindow t z _ _ _ ss hf hn _ (h.keep hbx)).mono ?_; rintro e w1 ⟨⟨x, rfl, hmx, hmm⟩, hb1⟩; have b5 := hb1.cellv (p := ⟨w.heap.size, 5, none⟩) (v := .slice B m d) (by go_simp))
  · go_ret
    exact ⟨⟨_, rfl, by omega⟩, hbx.trans hb1⟩
  · refine (c_szHoldSL _ _ _ x (by omega) hmx hm _).mono ?_
    rintro e w2 ⟨⟨y, rfl, hyy⟩, rfl⟩
    go_wp2_with fail
    all_goals
      go_ret
      exact ⟨⟨_, rfl, by omega⟩, hbx.trans hb1⟩
set_option maxRecDepth 100000 in
set_option maxHeartbeats 2000000 in
theorem c_toSource (t z : Int) (A : Option Addr) (n c : Nat) (ss : List ByteArray) (ck q : Int) (B : Option Addr) (m d : Nat) (hs : List Hold) (w : World) (hn : n ≤ 1048576) (hm : m ≤ 1048576) (h : Rd w A n 1 (ss.map scell)) (hh : Rd w B m 2 (hs.map Hold.cells)) :
    Calls Tryz.prog 46 #[.agg #[.int .i64 t, .int .i64 z, .slice A n c, .int .i64 ck, .int .i64 q, .slice B m d]] w fun e w' => (∃ A' c' B' d', e = .returned (.agg #[.int .i64 t, .int .i64 z, .slice A' n c', .int .i64 ck, .int .i64 q, .slice B' m d']) ∧ Row w' w.heap.size 9 1 scell A' n c' ss ∧ Row w' w.heap.size 128 2 Hold.cells B' m d' hs) ∧ Bw w w' := by
  go_enter Tryz.func46, Tryz.ntmps46
  go_wp2_with (first | (go_at_call 79; refine (c_toSendWindow t z _ _ _ ss _ hn (h.keep (Bw.alloc (Bw.alloc (Bw.alloc (Bw.refl _) _) _) _))).mono ?_; rintro e w1 ⟨⟨A1, c1, rfl, row1⟩, hb1⟩; have hr1 := hb1.rule; have hf1 := hb1.frz; have hs1 : w.heap.size + 3 ≤ w1.heap.size := (by have := hb1.size; simpa using this); have fz1 : ∀ j, w1.frozen? ⟨w.heap.size + 1, j, none⟩ = false := (fun j => (hb1.frz ⟨w.heap.size + 1, j, none⟩ (by simp; try omega)).trans (by first | go_simp | simp [go_sem])); have fz2 : ∀ j, w1.frozen? ⟨w.heap.size + 2, j, none⟩ = false := (fun j => (hb1.frz ⟨w.heap.size + 2, j, none⟩ (by simp; try omega)).trans (by first | go_simp | simp [go_sem])); have b00 := hb1.cellv (p := ⟨w.heap.size, 0, none⟩) (v := .int .i64 t) (by go_simp); have b01 := hb1.cellv (p := ⟨w.heap.size, 1, none⟩) (v := .int .i64 z) (by go_simp); have b02 := hb1.cellv (p := ⟨w.heap.size, 2, none⟩) (v := .slice A n c) (by go_simp); have b03 := hb1.cellv (p := ⟨w.heap.size, 3, none⟩) (v := .int .i64 ck) (by go_simp); have b04 := hb1.cellv (p := ⟨w.heap.size, 4, none⟩) (v := .int .i64 q) (by go_simp); have b05 := hb1.cellv (p := ⟨w.heap.size, 5, none⟩) (v := .slice B m d) (by go_simp); have b10 := hb1.cellv (p := ⟨w.heap.size + 1, 0, none⟩) (v := .int .i64 0) (by go_simp); have b11 := hb1.cellv (p := ⟨w.heap.size + 1, 1, none⟩) (v := .int .i64 0) (by go_simp); have b12 := hb1.cellv (p := ⟨w.heap.size + 1, 2, none⟩) (v := .slice none 0 0) (by go_simp); have b13 := hb1.cellv (p := ⟨w.heap.size + 1, 3, none⟩) (v := .int .i64 0) (by go_simp); have b14 := hb1.cellv (p := ⟨w.heap.size + 1, 4, none⟩) (v := .int .i64 0) (by go_simp); have b15 := hb1.cellv (p := ⟨w.heap.size + 1, 5, none⟩) (v := .slice none 0 0) (by go_simp); have b20 := hb1.cellv (p := ⟨w.heap.size + 2, 0, none⟩) (v := .int .i64 0) (by go_simp); have b21 := hb1.cellv (p := ⟨w.heap.size + 2, 1, none⟩) (v := .int .i64 0) (by go_simp); have b22 := hb1.cellv (p := ⟨w.heap.size + 2, 2, none⟩) (v := .slice none 0 0) (by go_simp); have b23 := hb1.cellv (p := ⟨w.heap.size + 2, 3, none⟩) (v := .int .i64 0) (by go_simp); have b24 := hb1.cellv (p := ⟨w.heap.size + 2, 4, none⟩) (v := .int .i64 0) (by go_simp); have b25 := hb1.cellv (p := ⟨w.heap.size + 2, 5, none⟩) (v := .slice none 0 0) (by go_simp); have hb : Bw w w1 := Bw.trans (Bw.alloc (Bw.alloc (Bw.alloc (Bw.refl _) _) _) _) hb1; have k5 := (((((hb.setCell (p := ⟨w.heap.size + 2, 0, none⟩) (by simp) (.int .i64 t)).setCell (p := ⟨w.heap.size + 2, 1, none⟩) (by simp) (.int .i64 z)).setCell (p := ⟨w.heap.size + 2, 2, none⟩) (by simp) (.slice A1 n c1)).setCell (p := ⟨w.heap.size + 2, 3, none⟩) (by simp) (.int .i64 ck)).setCell (p := ⟨w.heap.size + 2, 4, none⟩) (by simp) (.int .i64 q))) | (go_at_call 80; refine (c_toHoldS _ _ _ hs _ hm (hh.keep k5)).mono ?_; rintro e w2 ⟨⟨B2, d2, rfl, row2⟩, hb2⟩; have hr2 := hb2.rule; have hf2 := hb2.frz; have hs2 : w1.heap.size ≤ w2.heap.size := (by have := hb2.size; simpa using this); have gz1 : ∀ j, w2.frozen? ⟨w.heap.size + 1, j, none⟩ = false := (fun j => (hb2.frz ⟨w.heap.size + 1, j, none⟩ (by simp; omega)).trans (by simp [go_sem, fz1])); have gz2 : ∀ j, w2.frozen? ⟨w.heap.size + 2, j, none⟩ = false := (fun j => (hb2.frz ⟨w.heap.size + 2, j, none⟩ (by simp; omega)).trans (by simp [go_sem, fz2])); have e10 := hb2.cellv (p := ⟨w.heap.size + 1, 0, none⟩) (v := .int .i64 0) (by simp [go_sem, *]); have e11 := hb2.cellv (p := ⟨w.heap.size + 1, 1, none⟩) (v := .int .i64 0) (by simp [go_sem, *]); have e12 := hb2.cellv (p := ⟨w.heap.size + 1, 2, none⟩) (v := .slice none 0 0) (by simp [go_sem, *]); have e13 := hb2.cellv (p := ⟨w.heap.size + 1, 3, none⟩) (v := .int .i64 0) (by simp [go_sem, *]); have e14 := hb2.cellv (p := ⟨w.heap.size + 1, 4, none⟩) (v := .int .i64 0) (by simp [go_sem, *]); have e15 := hb2.cellv (p := ⟨w.heap.size + 1, 5, none⟩) (v := .slice none 0 0) (by simp [go_sem, *]); have e20 := hb2.cellv (p := ⟨w.heap.size + 2, 0, none⟩) (v := .int .i64 t) (by simp [go_sem, *]); have e21 := hb2.cellv (p := ⟨w.heap.size + 2, 1, none⟩) (v := .int .i64 z) (by simp [go_sem, *]); have e22 := hb2.cellv (p := ⟨w.heap.size + 2, 2, none⟩) (v := .slice A1 n c1) (by simp [go_sem, *]); have e23 := hb2.cellv (p := ⟨w.heap.size + 2, 3, none⟩) (v := .int .i64 ck) (by simp [go_sem, *]); have e24 := hb2.cellv (p := ⟨w.heap.size + 2, 4, none⟩) (v := .int .i64 q) (by simp [go_sem, *]); have e25 := hb2.cellv (p := ⟨w.heap.size + 2, 5, none⟩) (v := .slice none 0 0) (by simp [go_sem, *])))
  have lt1 := row1.lt
  have lt2 := row2.lt
  have ne1 : ∀ (k : Nat), k < w.heap.size + 3 → ∀ x, A1 = some x → k ≠ x.block := fun k hk x hx he => by have := (lt1 x hx).1; simp at this; omega
  have ne2 : ∀ (k : Nat), k < w.heap.size + 3 → ∀ x, B2 = some x → k ≠ x.block := fun k hk x hx he => by have := (lt2 x hx).1; simp at this; omega
  have ra0 := row1.store ⟨w.heap.size + 2, 0, none⟩ (.int .i64 t) (ne1 (w.heap.size + 2) (by omega))
  have ra1 := ra0.store ⟨w.heap.size + 2, 1, none⟩ (.int .i64 z) (ne1 (w.heap.size + 2) (by omega))
  have ra2 := ra1.store ⟨w.heap.size + 2, 2, none⟩ (.slice A1 n c1) (ne1 (w.heap.size + 2) (by omega))
  have ra3 := ra2.store ⟨w.heap.size + 2, 3, none⟩ (.int .i64 ck) (ne1 (w.heap.size + 2) (by omega))
  have ra4 := ra3.store ⟨w.heap.size + 2, 4, none⟩ (.int .i64 q) (ne1 (w.heap.size + 2) (by omega))
  have rb0 := (ra4.keep hb2).store ⟨w.heap.size + 2, 5, none⟩ (.slice B2 m d2) (ne1 (w.heap.size + 2) (by omega))
  have rb1 := rb0.store ⟨w.heap.size + 1, 0, none⟩ (.int .i64 t) (ne1 (w.heap.size + 1) (by omega))
  have rb2 := rb1.store ⟨w.heap.size + 1, 1, none⟩ (.int .i64 z) (ne1 (w.heap.size + 1) (by omega))
  have rb3 := rb2.store ⟨w.heap.size + 1, 2, none⟩ (.slice A1 n c1) (ne1 (w.heap.size + 1) (by omega))
  have rb4 := rb3.store ⟨w.heap.size + 1, 3, none⟩ (.int .i64 ck) (ne1 (w.heap.size + 1) (by omega))
  have rb5 := rb4.store ⟨w.heap.size + 1, 4, none⟩ (.int .i64 q) (ne1 (w.heap.size + 1) (by omega))
  have rb6 := rb5.store ⟨w.heap.size + 1, 5, none⟩ (.slice B2 m d2) (ne1 (w.heap.size + 1) (by omega))
  have rc0 := row2.store ⟨w.heap.size + 2, 5, none⟩ (.slice B2 m d2) (ne2 (w.heap.size + 2) (by omega))
  have rc1 := rc0.store ⟨w.heap.size + 1, 0, none⟩ (.int .i64 t) (ne2 (w.heap.size + 1) (by omega))
  have rc2 := rc1.store ⟨w.heap.size + 1, 1, none⟩ (.int .i64 z) (ne2 (w.heap.size + 1) (by omega))
  have rc3 := rc2.store ⟨w.heap.size + 1, 2, none⟩ (.slice A1 n c1) (ne2 (w.heap.size + 1) (by omega))
  have rc4 := rc3.store ⟨w.heap.size + 1, 3, none⟩ (.int .i64 ck) (ne2 (w.heap.size + 1) (by omega))
  have rc5 := rc4.store ⟨w.heap.size + 1, 4, none⟩ (.int .i64 q) (ne2 (w.heap.size + 1) (by omega))
  have rc6 := rc5.store ⟨w.heap.size + 1, 5, none⟩ (.slice B2 m d2) (ne2 (w.heap.size + 1) (by omega))
  have k7 := ((((((((k5.trans hb2).setCell (p := ⟨w.heap.size + 2, 5, none⟩) (by simp) (.slice B2 m d2)).setCell (p := ⟨w.heap.size + 1, 0, none⟩) (by simp) (.int .i64 t)).setCell (p := ⟨w.heap.size + 1, 1, none⟩) (by simp) (.int .i64 z)).setCell (p := ⟨w.heap.size + 1, 2, none⟩) (by simp) (.slice A1 n c1)).setCell (p := ⟨w.heap.size + 1, 3, none⟩) (by simp) (.int .i64 ck)).setCell (p := ⟨w.heap.size + 1, 4, none⟩) (by simp) (.int .i64 q)).setCell (p := ⟨w.heap.size + 1, 5, none⟩) (by simp) (.slice B2 m d2))
  exact bodyPost_ret (v := .agg #[.int .i64 t, .int .i64 z, .slice A1 n c1, .int .i64 ck, .int .i64 q, .slice B2 m d2]) (by simp [results, Tryz.results46, go_sem, e10, e11, e12, e13, e14, e15, e20, e21, e22, e23, e24, e25]) rfl ⟨⟨_, _, _, _, rfl, rb6.mono (by simp; omega), rc6.mono (by simp; omega)⟩, k7⟩
set_option maxRecDepth 100000 in
theorem c_eqSource (t z : Int) (A A' : Option Addr) (n c c' : Nat) (ss : List ByteArray) (ck q : Int) (B B' : Option Addr) (m d d' : Nat) (hs : List Hold) (w : World) (hn : n ≤ 9223372036854775807) (hm : m ≤ 9223372036854775807) (h : Rd w A n 1 (ss.map scell)) (h' : Rd w A' n 1 (ss.map scell)) (hh : Rd w B m 2 (hs.map Hold.cells)) (hh' : Rd w B' m 2 (hs.map Hold.cells)) :
    Calls Tryz.prog 26 #[.agg #[.int .i64 t, .int .i64 z, .slice A n c, .int .i64 ck, .int .i64 q, .slice B m d], .agg #[.int .i64 t, .int .i64 z, .slice A' n c', .int .i64 ck, .int .i64 q, .slice B' m d']] w fun e w' => e = .returned (.bool true) ∧ Bw w w' := by
  have b2 : Bw w ((w.alloc (.cells #[.int .i64 t, .int .i64 z, .slice A n c, .int .i64 ck, .int .i64 q, .slice B m d] 32)).alloc (.cells #[.int .i64 t, .int .i64 z, .slice A' n c', .int .i64 ck, .int .i64 q, .slice B' m d'] 32)) := Bw.alloc (Bw.alloc (Bw.refl _) _) _
  go_enter Tryz.func26, Tryz.ntmps26
  go_wp2_with (first | (go_at_call 55; refine (c_eqSendWindow t z _ _ _ _ _ ss _ hn (h.keep b2) (h'.keep b2)).mono ?_; rintro e w1 ⟨rfl, hb1⟩; have d3 := hb1.cellv (p := ⟨w.heap.size, 3, none⟩) (v := .int .i64 ck) (by go_simp); have d4 := hb1.cellv (p := ⟨w.heap.size, 4, none⟩) (v := .int .i64 q) (by go_simp); have d5 := hb1.cellv (p := ⟨w.heap.size, 5, none⟩) (v := .slice B m d) (by go_simp); have f3 := hb1.cellv (p := ⟨w.heap.size + 1, 3, none⟩) (v := .int .i64 ck) (by go_simp); have f4 := hb1.cellv (p := ⟨w.heap.size + 1, 4, none⟩) (v := .int .i64 q) (by go_simp); have f5 := hb1.cellv (p := ⟨w.heap.size + 1, 5, none⟩) (v := .slice B' m d') (by go_simp)) | (go_at_call 56; refine (c_eqHoldS _ _ _ _ _ hs _ hm (hh.keep (b2.trans hb1)) (hh'.keep (b2.trans hb1))).mono ?_; rintro e w2 ⟨rfl, hb2⟩))
  go_ret
  exact ⟨rfl, (b2.trans hb1).trans hb2⟩
def ticksR (t z : Int) (ss : List ByteArray) (ck q : Int) (hs : List Hold) : Int := if srcB t z ss ck q hs = true then 4 - q else 0
end Go.Proofs.YtpjljbhodnlhmaaGreatDoor
