
/- Entries and elements: the law's own helpers. -/
import Derived.Test.YtpjljbhodnlhmaaGreatDoorE1
import Derived.Test.YtpjljbhodnlhmaaGreatDoorS3
namespace Go.Proofs.YtpjljbhodnlhmaaGreatDoor
open Go.RowKit
theorem c_szIntSL (A : Option Addr) (n c : Nat) (L : Int) (hm : n ≤ maxLen) (h0 : 0 ≤ L) (h1 : L ≤ 1048576) (w : World) : Calls Tryz.prog 18 #[.slice A n c, .int .i64 L] w fun e w' => (∃ m : Int, e = .returned (.int .i64 m) ∧ -1 ≤ m ∧ m ≤ 1048576 ∧ (m < 0 ∨ n ≤ 1048576)) ∧ w = w' := by
  unfold maxLen at hm
  go_enter Tryz.func18, Tryz.ntmps18
  go_wp2
  all_goals
    go_ret
    refine ⟨⟨_, rfl, by omega, by omega, by omega⟩, rfl⟩
theorem c_szEntry (a b : Int) (A : Option Addr) (n c : Nat) (L : Int) (hm : n ≤ maxLen) (h0 : 0 ≤ L) (h1 : L ≤ 1048576) (w : World) : Calls Tryz.prog 144 #[.agg #[.int .i64 a, .slice A n c, .int .i64 b], .int .i64 L] w fun e w' => (∃ m : Int, e = .returned (.int .i64 m) ∧ -1 ≤ m ∧ m ≤ 1048576 ∧ (m < 0 ∨ n ≤ 1048576)) ∧ Bw w w' := by
  go_enter Tryz.func144, Tryz.ntmps144
  go_wp2_with (go_at_call 18; refine (c_szIntSL _ _ _ L hm h0 h1 _).mono ?_; rintro e w1 ⟨⟨m, rfl, hm0, hm1, hmm⟩, rfl⟩)
  all_goals
    go_ret
    exact ⟨⟨_, rfl, by omega, by omega, by omega⟩, by (repeat (first | with_reducible assumption | exact Bw.refl _ | (with_reducible refine Bw.setCell ?_ (by simp) _) | (with_reducible refine Bw.alloc ?_ _) | (with_reducible refine Bw.drew ?_) | (with_reducible refine Bw.drewN ?_ _)))⟩
theorem c_szEntryS (A : Option Addr) (n c : Nat) (es : List Ev) (ts : List Ent) (w : World) (hm : n ≤ 9223372036854775807) (h : RdE w A n es ts) :
    Calls Tryz.prog 112 #[.slice A n c, .int .i64 1048576] w fun e w' => (∃ m : Int, e = .returned (.int .i64 m) ∧ m ≤ 1048576 ∧ (m < 0 ∨ n ≤ 1048576 ∧ ∀ k, k < n → (entAt ts k).n ≤ 1048576)) ∧ Bw w w' := by
  have hl := Lib.hid h.len
  go_enter Tryz.func112, Tryz.ntmps112
  by_cases hN : n ≤ 1048576
  · go_wp2
    go_loopw [1, 5] (fun lv i wr => ∃ (k : Nat) (L : Int), k ≤ n ∧ i = .int .i64 k ∧ lv = .int .i64 L ∧ 0 ≤ L ∧ L ≤ 1048576 ∧ (∀ j, j < k → (entAt ts j).n ≤ 1048576) ∧ Bw w wr) (fun _ i _ => n - (intOf i).toNat)
    case atStart => exact ⟨0, _, Nat.zero_le _, rfl, rfl, by omega, by omega, fun j hj => absurd hj (by omega), Bw.refl _⟩
    case round =>
      obtain ⟨k, L, hk, rfl, rfl, hL0, hL1, hj, hbl⟩ := hrel
      have HJ := Lib.hid hj
      clear hj
      by_cases hlt : k < n
      · have hh := h.keep hbl
        obtain ⟨b, off, rfl, hb, hc⟩ := hh.at_ (by omega)
        have ⟨h0, h1, h2⟩ := hc k hlt
        have hfk := (hh.fs k hlt).2
        clear hc
        generalize evAt es k = s at *
        have HFK := Lib.hid hfk
        clear hfk
        go_wp2_with (go_at_call 144; refine (c_szEntry _ _ _ _ _ L HFK.out hL0 hL1 _).mono ?_; rintro e w1 ⟨⟨m, rfl, hm0, hm1, hmm⟩, hb1⟩)
        · go_ret
          exact ⟨⟨_, rfl, by omega, .inl (by omega)⟩, hbl.trans hb1⟩
        · go_roundw
          case rel => exact ⟨k + 1, _, by omega, by go_num, rfl, by omega, by omega, snoc_lt HJ.out (by omega), hbl.trans hb1⟩
          case measure => simp [intOf]; omega
      · go_wp2
        go_ret
        exact ⟨⟨_, rfl, by omega, .inr ⟨by omega, fun j hj => HJ.out j (by omega)⟩⟩, hbl⟩
  · go_wp2
    go_ret
    exact ⟨⟨_, rfl, by omega, .inl (by omega)⟩, Bw.refl _⟩
theorem c_szElement (t : Int) (A : Option Addr) (n c : Nat) (es : List Ev) (ts : List Ent) (hm : n ≤ 9223372036854775807) (w : World) (h : RdE w A n es ts) : Calls Tryz.prog 75 #[.agg #[.int .i64 t, .slice A n c], .int .i64 1048576] w fun e w' => (∃ m : Int, e = .returned (.int .i64 m) ∧ m ≤ 1048576 ∧ (m < 0 ∨ n ≤ 1048576 ∧ ∀ k, k < n → (entAt ts k).n ≤ 1048576)) ∧ Bw w w' := by
  go_enter Tryz.func75, Tryz.ntmps75
  go_wp2_with (go_at_call 112; refine (c_szEntryS _ _ _ es ts _ hm (h.keep (Bw.alloc (Bw.refl _) _))).mono ?_; rintro e w1 ⟨⟨m, rfl, hmx, hmm⟩, hb1⟩; have HM := Lib.hid hmm; clear hmm)
  · go_ret
    exact ⟨⟨_, rfl, by omega, .inl (by omega)⟩, Bw.trans (Bw.alloc (Bw.refl _) _) hb1⟩
  · go_ret
    exact ⟨⟨_, rfl, by omega, HM.out⟩, Bw.trans (Bw.alloc (Bw.refl _) _) hb1⟩
set_option maxRecDepth 100000 in
theorem c_toEntry (v : Ev) (A : Option Addr) (n c : Nat) (w : World) (hm : n ≤ 1048576) (h : Rd w A n 1 (v.fs.map icell)) :
    Calls Tryz.prog 152 #[.agg #[.int .i64 v.num, .slice A n c, .int .i64 v.unt]] w fun e w' => (∃ A' c', e = .returned (.agg #[.int .i64 v.num, .slice A' n c', .int .i64 v.unt]) ∧ Row w' w.heap.size 3 1 icell A' n c' v.fs) ∧ Bw w w' := by
  obtain ⟨a, u, fs⟩ := v
  dsimp only at *
  go_enter Tryz.func152, Tryz.ntmps152
  go_wp2_with (go_at_call 22; refine (c_toIntS _ _ _ fs _ hm (h.keep (by (repeat (first | with_reducible assumption | exact Bw.refl _ | (with_reducible refine Bw.setCell ?_ (by simp) _) | (with_reducible refine Bw.alloc ?_ _) | (with_reducible refine Bw.drew ?_) | (with_reducible refine Bw.drewN ?_ _)))))).mono ?_; rintro e w1 ⟨⟨A1, c1, rfl, row1⟩, hb1⟩; have hr1 := hb1.rule; have hf1 := hb1.frz; have hs1 : w.heap.size + 3 ≤ w1.heap.size := (by have := hb1.size; simpa using this); have b10 := hb1.cellv (p := ⟨w.heap.size + 1, 0, none⟩) (v := .int .i64 0) (by go_simp); have b11 := hb1.cellv (p := ⟨w.heap.size + 1, 1, none⟩) (v := .slice none 0 0) (by go_simp); have b12 := hb1.cellv (p := ⟨w.heap.size + 1, 2, none⟩) (v := .int .i64 0) (by go_simp); have b20 := hb1.cellv (p := ⟨w.heap.size + 2, 0, none⟩) (v := .int .i64 a) (by go_simp); have b21 := hb1.cellv (p := ⟨w.heap.size + 2, 1, none⟩) (v := .slice none 0 0) (by go_simp); have b22 := hb1.cellv (p := ⟨w.heap.size + 2, 2, none⟩) (v := .int .i64 0) (by go_simp); have b02 := hb1.cellv (p := ⟨w.heap.size, 2, none⟩) (v := .int .i64 u) (by go_simp))
  have lt1 := row1.lt
  have ne1 : ∀ (k : Nat), k < w.heap.size + 3 → ∀ x, A1 = some x → k ≠ x.block := fun k hk x hx he => by have := (lt1 x hx).1; simp at this; omega
  have r1 := row1.store ⟨w.heap.size + 2, 1, none⟩ (.slice A1 n c1) (ne1 (w.heap.size + 2) (by omega))
  have r2 := r1.store ⟨w.heap.size + 2, 2, none⟩ (.int .i64 u) (ne1 (w.heap.size + 2) (by omega))
  have r3 := r2.store ⟨w.heap.size + 1, 0, none⟩ (.int .i64 a) (ne1 (w.heap.size + 1) (by omega))
  have r4 := r3.store ⟨w.heap.size + 1, 1, none⟩ (.slice A1 n c1) (ne1 (w.heap.size + 1) (by omega))
  have r5 := r4.store ⟨w.heap.size + 1, 2, none⟩ (.int .i64 u) (ne1 (w.heap.size + 1) (by omega))
  have hb : Bw w w1 := Bw.trans (by (repeat (first | with_reducible assumption | exact Bw.refl _ | (with_reducible refine Bw.setCell ?_ (by simp) _) | (with_reducible refine Bw.alloc ?_ _) | (with_reducible refine Bw.drew ?_) | (with_reducible refine Bw.drewN ?_ _)))) hb1
  have k4 := ((((hb.setCell (p := ⟨w.heap.size + 2, 1, none⟩) (by simp) (.slice A1 n c1)).setCell (p := ⟨w.heap.size + 2, 2, none⟩) (by simp) (.int .i64 u)).setCell (p := ⟨w.heap.size + 1, 0, none⟩) (by simp) (.int .i64 a)).setCell (p := ⟨w.heap.size + 1, 1, none⟩) (by simp) (.slice A1 n c1)).setCell (p := ⟨w.heap.size + 1, 2, none⟩) (by simp) (.int .i64 u)
  exact bodyPost_ret (v := .agg #[.int .i64 a, .slice A1 n c1, .int .i64 u]) (by simp [results, Tryz.results152, go_sem, b10, b11, b12]) rfl ⟨⟨_, _, rfl, r5.mono (by simp; omega)⟩, k4⟩
theorem infoEnt : (Tryz.prog.info? 146).map (fun i => (i.zero, i.size, i.bytes)) = some (some (.agg #[.int .i64 0, .slice none 0 0, .int .i64 0]), 3, 40) := by kernel_rfl
theorem c_toEntryS (A : Option Addr) (n c : Nat) (es : List Ev) (ts : List Ent) (w : World) (hm : n ≤ 1048576) (h : RdE w A n es ts) (hm2 : ∀ k, k < n → (entAt ts k).n ≤ 1048576) :
    Calls Tryz.prog 122 #[.slice A n c] w fun e w' => (∃ A' c' ts', e = .returned (.slice A' n c') ∧ RowE w' w.heap.size A' n c' es ts') ∧ Bw w w' := by
  have hl := Lib.hid h.len
  obtain ⟨i0, hi, hz0, hz1, hz2⟩ := info_parts infoEnt
  have hmk : ∀ W, (Instr.makeSlice 87 (.int .i64 (n : Int)) (.int .i64 (n : Int))).run Tryz.prog W = .ok (.slice (some ⟨W.heap.size, 0, none⟩) n n) (W.alloc (.cells (madeCells #[.int .i64 0, .slice none 0 0, .int .i64 0] (n * 3)) 146)) := fun W => by
    have := run_make (P := Tryz.prog) W 87 146 i0 _ Tryz.underlying87 hi hz0 .i64 .i64 n n (by omega) (by omega) (by rw [hz2]; omega) (by omega)
    rw [hz1] at this
    exact this
  clear hi hz0 hz1 hz2
  have HM2 := Lib.hid hm2
  clear hm2
  go_enter Tryz.func122, Tryz.ntmps122
  go_wp2
  go_loopw [4] (fun i wr => ∃ (k : Nat) (ts' : List Ent), k ≤ n ∧ i = .int .i64 k ∧ RowE wr w.heap.size (some ⟨w.heap.size, 0, none⟩) n n (mix ev0 n k es) ts' ∧ Bw w wr) (fun i _ => n - (intOf i).toNat)
  case atStart =>
    refine ⟨0, List.replicate n ent0, Nat.zero_le _, rfl, ⟨⟨?_, by simp⟩, by simp [mix, ent0], fun k hk => ?_, fun k hk x y hx => ?_, fun j k hj hk _ x y hx => ?_⟩, (Bw.refl _).alloc _⟩
    · have := World.ownsRow_lit (base := w.heap.size) (e := 146) (size := 3) w (madeCells #[.int .i64 0, .slice none 0 0, .int .i64 0] (n * 3)) n (Nat.le_refl _) (by unfold maxLen; omega) (size_madeCells _ _)
      have e1 := madeCells_flat #[.int .i64 0, .slice none 0 0, .int .i64 0] (by simp) n
      have e2 : (#[Value.int .i64 0, Value.slice none 0 0, Value.int .i64 0] : Array Value).size = 3 := rfl
      rw [e2] at e1
      rw [e1] at this
      rw [List.flatMap_replicate]
      exact this
    · have : entAt (List.replicate n ent0) k = ent0 := by simp [entAt, hk]
      rw [this]; exact Row.nil _ _ _ _ _
    · have : entAt (List.replicate n ent0) k = ent0 := by simp [entAt, hk]
      rw [this] at hx; simp [ent0] at hx
    · have : entAt (List.replicate n ent0) j = ent0 := by simp [entAt, hj]
      rw [this] at hx; simp [ent0] at hx
  case round =>
    obtain ⟨k, ts', hk, rfl, hrow, hbl⟩ := hrel
    by_cases hlt : k < n
    · have hh := h.keep hbl
      obtain ⟨b, off, rfl, hb, hc⟩ := hh.at_ (by omega)
      have ⟨h0, h1, h2⟩ := hc k hlt
      have hfr := Lib.hid (hh.ints hlt)
      have hmk2 := Lib.hid (HM2.out k hlt)
      clear hc
      obtain ⟨g, hg, hlo, hgl⟩ := hrow.row.form (by omega)
      obtain rfl : w.heap.size = g := by simpa using hg
      go_wp2_with (go_at_call 152; refine (c_toEntry (evAt es k) _ _ _ _ hmk2.out (hfr.out.keep (by (repeat (first | with_reducible assumption | exact Bw.refl _ | (with_reducible refine Bw.setCell ?_ (by simp) _) | (with_reducible refine Bw.alloc ?_ _) | (with_reducible refine Bw.drew ?_) | (with_reducible refine Bw.drewN ?_ _)))))).mono ?_; rintro e w1 ⟨⟨A1, c1, rfl, row1⟩, hb1⟩; have hrow1 := hrow.keep hb1; obtain ⟨g, off', hg', hgl', hcc⟩ := hrow1.rd.at_ (by omega); obtain ⟨rfl, rfl⟩ : w.heap.size = g ∧ 0 = off' := (by simpa using hg'); have ⟨q0, q1, q2⟩ := hcc k hlt; simp only [Nat.zero_add] at q0 q1 q2; have hfz := hrow1.row.frozen; clear hcc)
      go_roundw
      case rel =>
        have hs := hrow1.set3 (v := evAt es k) hlt (row1.mono hbl.size) (fun x hx => by have := (row1.lt x hx).1; omega) (fun j hj x y hx hy => by have h1 := (row1.lt x hx).1; have h2 := ((hrow.fs j hj).lt y hy).2; omega)
        have hs1 := hs.1
        rw [show (mix ev0 n k es).set k (evAt es k) = mix ev0 n (k + 1) es from mix_succ _ _ _ _ hl.out hlt] at hs1
        exact ⟨k + 1, _, by omega, by go_num, hs1, (hbl.trans hb1).grown hs.2 (by simp)⟩
      case measure => simp [intOf]; omega
    · go_wp2
      go_ret
      obtain rfl : k = n := by omega
      rw [mix_all _ _ _ hl.out] at hrow
      exact ⟨⟨_, _, _, rfl, hrow⟩, hbl⟩
set_option maxRecDepth 100000 in
theorem c_toElement (t : Int) (A : Option Addr) (n c : Nat) (es : List Ev) (ts : List Ent) (w : World) (hm : n ≤ 1048576) (h : RdE w A n es ts) (hm2 : ∀ k, k < n → (entAt ts k).n ≤ 1048576) :
    Calls Tryz.prog 81 #[.agg #[.int .i64 t, .slice A n c]] w fun e w' => (∃ A' c' ts', e = .returned (.agg #[.int .i64 t, .slice A' n c']) ∧ RowE w' w.heap.size A' n c' es ts') ∧ Bw w w' := by
  have HM2 := Lib.hid hm2
  clear hm2
  go_enter Tryz.func81, Tryz.ntmps81
  go_wp2_with (go_at_call 122; refine (c_toEntryS _ _ _ es ts _ hm (h.keep (Bw.alloc (Bw.alloc (Bw.alloc (Bw.refl _) _) _) _)) HM2.out).mono ?_; rintro e w1 ⟨⟨A1, c1, ts1, rfl, row1⟩, hb1⟩; have hr1 := hb1.rule; have hf1 := hb1.frz; have hs1 : w.heap.size + 3 ≤ w1.heap.size := (by have := hb1.size; simpa using this); have b10 := hb1.cellv (p := ⟨w.heap.size + 1, 0, none⟩) (v := .int .i64 0) (by go_simp); have b11 := hb1.cellv (p := ⟨w.heap.size + 1, 1, none⟩) (v := .slice none 0 0) (by go_simp); have b20 := hb1.cellv (p := ⟨w.heap.size + 2, 0, none⟩) (v := .int .i64 t) (by go_simp); have b21 := hb1.cellv (p := ⟨w.heap.size + 2, 1, none⟩) (v := .slice none 0 0) (by go_simp))
  have lt1 := row1.row.lt
  have lt2 := fun k hk => (row1.fs k hk).lt
  have ne1 : ∀ (k : Nat), k < w.heap.size + 3 → ∀ x, A1 = some x → k ≠ x.block := fun k hk x hx he => by have := (lt1 x hx).1; simp at this; omega
  have ne2 : ∀ (k : Nat), k < w.heap.size + 3 → ∀ j, j < n → ∀ x, (entAt ts1 j).A = some x → k ≠ x.block := fun k hk j hj x hx he => by have := (lt2 j hj x hx).1; simp at this; omega
  have r1 := row1.grown (grown_setCell _ ⟨w.heap.size + 2, 1, none⟩ (.slice A1 n c1)) (ne1 (w.heap.size + 2) (by omega)) (ne2 (w.heap.size + 2) (by omega))
  have r2 := r1.grown (grown_setCell _ ⟨w.heap.size + 1, 0, none⟩ (.int .i64 t)) (ne1 (w.heap.size + 1) (by omega)) (ne2 (w.heap.size + 1) (by omega))
  have r3 := r2.grown (grown_setCell _ ⟨w.heap.size + 1, 1, none⟩ (.slice A1 n c1)) (ne1 (w.heap.size + 1) (by omega)) (ne2 (w.heap.size + 1) (by omega))
  have hb : Bw w w1 := Bw.trans (by (repeat (first | with_reducible assumption | exact Bw.refl _ | (with_reducible refine Bw.setCell ?_ (by simp) _) | (with_reducible refine Bw.alloc ?_ _) | (with_reducible refine Bw.drew ?_) | (with_reducible refine Bw.drewN ?_ _)))) hb1
  have k4 := ((hb.setCell (p := ⟨w.heap.size + 2, 1, none⟩) (by simp) (.slice A1 n c1)).setCell (p := ⟨w.heap.size + 1, 0, none⟩) (by simp) (.int .i64 t)).setCell (p := ⟨w.heap.size + 1, 1, none⟩) (by simp) (.slice A1 n c1)
  exact bodyPost_ret (v := .agg #[.int .i64 t, .slice A1 n c1]) (by simp [results, Tryz.results81, go_sem, b10, b11, b20, b21]) rfl ⟨⟨_, _, _, rfl, r3.mono (by simp; omega)⟩, k4⟩
theorem c_eqEntry (v : Ev) (A A' : Option Addr) (n n' c c' : Nat) (w : World) (hm : n ≤ maxLen) (h : Rd w A n 1 (v.fs.map icell)) (h' : Rd w A' n' 1 (v.fs.map icell)) : Calls Tryz.prog 141 #[.agg #[.int .i64 v.num, .slice A n c, .int .i64 v.unt], .agg #[.int .i64 v.num, .slice A' n' c', .int .i64 v.unt]] w fun e w' => e = .returned (.bool true) ∧ Bw w w' := by
  obtain rfl : n = n' := by have := h.ilen; have := h'.ilen; omega
  obtain ⟨a, u, fs⟩ := v
  dsimp only at *
  unfold maxLen at hm
  go_enter Tryz.func141, Tryz.ntmps141
  go_wp2_with (go_at_call 30; refine (c_eqIntS _ _ _ _ _ fs _ (by omega) (h.keep (by (repeat (first | with_reducible assumption | exact Bw.refl _ | (with_reducible refine Bw.setCell ?_ (by simp) _) | (with_reducible refine Bw.alloc ?_ _) | (with_reducible refine Bw.drew ?_) | (with_reducible refine Bw.drewN ?_ _))))) (h'.keep (by (repeat (first | with_reducible assumption | exact Bw.refl _ | (with_reducible refine Bw.setCell ?_ (by simp) _) | (with_reducible refine Bw.alloc ?_ _) | (with_reducible refine Bw.drew ?_) | (with_reducible refine Bw.drewN ?_ _)))))).mono ?_; rintro e w1 ⟨rfl, hb1⟩; have d2 := hb1.cellv (p := ⟨w.heap.size, 2, none⟩) (v := .int .i64 u) (by go_simp); have d3 := hb1.cellv (p := ⟨w.heap.size + 1, 2, none⟩) (v := .int .i64 u) (by go_simp))
  go_ret
  exact ⟨rfl, Bw.trans (by (repeat (first | with_reducible assumption | exact Bw.refl _ | (with_reducible refine Bw.setCell ?_ (by simp) _) | (with_reducible refine Bw.alloc ?_ _) | (with_reducible refine Bw.drew ?_) | (with_reducible refine Bw.drewN ?_ _)))) hb1⟩
theorem c_eqEntryS (A A' : Option Addr) (n c c' : Nat) (es : List Ev) (ts ts' : List Ent) (w : World) (hm : n ≤ 9223372036854775807) (h : RdE w A n es ts) (h' : RdE w A' n es ts') :
    Calls Tryz.prog 104 #[.slice A n c, .slice A' n c'] w fun e w' => e = .returned (.bool true) ∧ Bw w w' := by
  go_enter Tryz.func104, Tryz.ntmps104
  go_wp2
  go_loopw [5] (fun i wr => ∃ k : Nat, k ≤ n ∧ i = .int .i64 k ∧ Bw w wr) (fun i _ => n - (intOf i).toNat)
  case atStart => exact ⟨0, Nat.zero_le _, rfl, Bw.refl _⟩
  case round =>
    obtain ⟨k, hk, rfl, hbl⟩ := hrel
    by_cases hlt : k < n
    · have H := Lib.hid (h.keep hbl)
      have H' := Lib.hid (h'.keep hbl)
      obtain ⟨b, off, rfl, hb, hc⟩ := H.out.at_ (by omega)
      obtain ⟨b', off', rfl, hb', hc'⟩ := H'.out.at_ (by omega)
      have ⟨h0, h1, h2⟩ := hc k hlt
      have ⟨p0, p1, p2⟩ := hc' k hlt
      clear hc hc'
      have HE := Lib.hid (fun (x : Ext _) => c_eqEntry (evAt es k) _ _ _ _ (entAt ts k).c (entAt ts' k).c x.v (H.out.fs k hlt).2 ((H.out.ints hlt).keep x.h) ((H'.out.ints hlt).keep x.h))
      go_wp2
      (refine wp_region_ext (by kernel_rfl) (by kernel_rfl) ?_; (repeat (go_big_quiet_step ((exact Ext.calls (HE.out _))))); (with_reducible refine wpQuiet_nil ?_); intro w2 hb2)
      go_wp2
      go_roundw
      case rel => exact ⟨k + 1, by omega, by go_num, hbl.trans hb2⟩
      case measure => simp [intOf]; omega
    · go_wp2
      go_ret
      exact ⟨rfl, hbl⟩
theorem c_eqElement (t : Int) (A A' : Option Addr) (n c c' : Nat) (es : List Ev) (ts ts' : List Ent) (w : World) (hm : n ≤ 9223372036854775807) (h : RdE w A n es ts) (h' : RdE w A' n es ts') :
    Calls Tryz.prog 57 #[.agg #[.int .i64 t, .slice A n c], .agg #[.int .i64 t, .slice A' n c']] w fun e w' => e = .returned (.bool true) ∧ Bw w w' := by
  go_enter Tryz.func57, Tryz.ntmps57
  go_wp2_with (go_at_call 104; refine (c_eqEntryS _ _ _ _ _ es ts ts' _ hm (h.keep (Bw.alloc (Bw.alloc (Bw.refl _) _) _)) (h'.keep (Bw.alloc (Bw.alloc (Bw.refl _) _) _))).mono ?_; rintro e w1 ⟨rfl, hb1⟩)
  go_ret
  exact ⟨rfl, Bw.trans (Bw.alloc (Bw.alloc (Bw.refl _) _) _) hb1⟩
end Go.Proofs.YtpjljbhodnlhmaaGreatDoor
