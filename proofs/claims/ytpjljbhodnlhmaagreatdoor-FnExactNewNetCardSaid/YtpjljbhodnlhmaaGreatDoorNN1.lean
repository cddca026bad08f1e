
/- NewNet: both sides. -/
import Derived.Test.YtpjljbhodnlhmaaGreatDoorT12
import Derived.Test.YtpjljbhodnlhmaaGreatDoorP1
import Derived.Test.YtpjljbhodnlhmaaGreatDoorP5T
import Derived.Test.YtpjljbhodnlhmaaGreatDoorIC
import Derived.Test.YtpjljbhodnlhmaaGreatDoorK22
import Derived.Test.YtpjljbhodnlhmaaGreatDoorNN0
namespace Go.Proofs.YtpjljbhodnlhmaaGreatDoor
open Go.RowKit
structure Nz (W : World) (b : Nat) : Prop where
  c0 : W.cell? ⟨b, 0, none⟩ = some (.slice none 0 0)
  c1 : W.cell? ⟨b, 1, none⟩ = some (.int .i64 0)
  c2 : W.cell? ⟨b, 2, none⟩ = some (.int .i64 0)
  c3 : W.cell? ⟨b, 3, none⟩ = some (.slice none 0 0)
  c4 : W.cell? ⟨b, 4, none⟩ = some (.int .i64 0)
  c5 : W.cell? ⟨b, 5, none⟩ = some (.int .i64 0)
  c6 : W.cell? ⟨b, 6, none⟩ = some (.slice none 0 0)
  c7 : W.cell? ⟨b, 7, none⟩ = some (.slice none 0 0)
  c8 : W.cell? ⟨b, 8, none⟩ = some (.slice none 0 0)
  c9 : W.cell? ⟨b, 9, none⟩ = some (.slice none 0 0)
  c10 : W.cell? ⟨b, 10, none⟩ = some (.slice none 0 0)
  fz : ∀ j, W.frozen? ⟨b, j, none⟩ = false
  lt : b < W.heap.size
theorem Nz.keep {W W' : World} {b : Nat} (h : Nz W b) (k : Bw W W') : Nz W' b :=
  ⟨k.cellv h.c0, k.cellv h.c1, k.cellv h.c2, k.cellv h.c3, k.cellv h.c4, k.cellv h.c5, k.cellv h.c6, k.cellv h.c7, k.cellv h.c8, k.cellv h.c9, k.cellv h.c10, fun j => (k.frz _ h.lt).trans (h.fz j), Nat.lt_of_lt_of_le h.lt k.size⟩
theorem Nz.new (W : World) (ty : Nat) : Nz (W.alloc (.cells #[.slice none 0 0, .int .i64 0, .int .i64 0, .slice none 0 0, .int .i64 0, .int .i64 0, .slice none 0 0, .slice none 0 0, .slice none 0 0, .slice none 0 0, .slice none 0 0] ty)) W.heap.size :=
  ⟨by simp [go_sem], by simp [go_sem], by simp [go_sem], by simp [go_sem], by simp [go_sem], by simp [go_sem], by simp [go_sem], by simp [go_sem], by simp [go_sem], by simp [go_sem], by simp [go_sem], fun j => by first | go_simp | simp [go_sem], by simp⟩
def netB (t z : Int) (ps : List Int) : Bool := srcB t z [] 0 0 [] && goodP ps
def NetOut (n : Nat) (ps : List Int) (T Z : Int) (w W : World) (e : Ending) : Prop :=
  ∃ B d g1 g2 g3 g4, e = .returned (.tuple #[.agg #[.slice B n d, .int .i64 T, .int .i64 Z, .slice none 0 0, .int .i64 0, .int .i64 0, .slice none 0 0, .slice (some ⟨g1, 0, none⟩) n n, .slice (some ⟨g2, 0, none⟩) n n, .slice (some ⟨g3, 0, none⟩) n n, .slice (some ⟨g4, 0, none⟩) n n], .bool true]) ∧ NR W w.heap.size n ps B d g1 g2 g3 g4 (List.replicate n 0) (List.replicate n (false, 0, 0))
def NetNo (e : Ending) : Prop := e = .returned (.tuple #[.agg #[.slice none 0 0, .int .i64 0, .int .i64 0, .slice none 0 0, .int .i64 0, .int .i64 0, .slice none 0 0, .slice none 0 0, .slice none 0 0, .slice none 0 0, .slice none 0 0], .bool false])
set_option maxRecDepth 100000 in
theorem c_iNewNet (A : Option Addr) (n c : Nat) (ps : List Int) (t z : Int) {r g : Bool} (hr : srcB t z [] 0 0 [] = r) (hg : goodP ps = g) (w : World) (hn : n ≤ 1048576) (h : Rd w A n 1 (ps.map icell)) :
    Calls Tryz.prog 8 #[.agg #[.slice A n c], .int .i64 t, .int .i64 z] w fun e w' => (if (r && g) = true then NetOut n ps (nsT t z) (nsZ t z) w w' e else NetNo e) ∧ Bw w w' := by
  have hbx := ((Bw.refl w).alloc (.cells #[.slice A n c] 26))
  have hbs : ∀ o, Bw w ((w.alloc (.cells #[.slice A n c] 26)).alloc o) := fun o => hbx.alloc o
  have HG := Lib.hid hg
  have HR := Lib.hid hr
  clear hg hr
  go_enter Tryz.func8, Tryz.ntmps8
  go_wp2_with fail
  refine (c_iNewSource t z _).mono ?_
  rintro e w1 ⟨rfl, hb1⟩
  have hb1' := (hbs _).trans hb1
  rw [HR.out]
  generalize hT : nsT t z = T
  generalize hZ : nsZ t z = Z
  have HT := Lib.hid hT
  have HZ := Lib.hid hZ
  clear hT hZ
  have hsz : w.heap.size + 2 ≤ w1.heap.size := by have := hb1.size; simpa using this
  have htc1 : w1.cell? ⟨w.heap.size, 0, none⟩ = some (.slice A n c) := hb1.cellv (by simp [go_sem])
  have htc2 : ∀ o, (w1.alloc o).cell? ⟨w.heap.size, 0, none⟩ = some (.slice A n c) := fun o => (((Bw.refl w1).alloc o).cellv htc1)
  have nz1 : Nz w1 (w.heap.size + 1) := by
    have := (Nz.new (w.alloc (.cells #[.slice A n c] 26)) 37).keep hb1
    simpa using this
  have hfr : ∀ j, w.frozen? ⟨w.heap.size + 1, j, none⟩ = w.frozen? ⟨w.heap.size + 1, j, none⟩ := fun _ => rfl
  clear hfr
  rcases Bool.eq_false_or_eq_true r with rfl | rfl
  · rcases Bool.eq_false_or_eq_true g with rfl | rfl
    · go_wp2_with (go_at_call 24; refine (c_IsValidTree _ _ _ ps HG.out _ (by omega) (h.keep (by (repeat (first | with_reducible assumption | exact Bw.refl _ | (with_reducible refine Bw.setCell ?_ (by simp) _) | (with_reducible refine Bw.alloc ?_ _) | (with_reducible refine Bw.drew ?_) | (with_reducible refine Bw.drewN ?_ _)))))).mono ?_; rintro e w2 ⟨rfl, hb2⟩; have nz2 := (nz1.keep (Bw.alloc (Bw.refl _) _)).keep hb2; have s0 : w2.cell? ⟨w1.heap.size, 0, none⟩ = some (.int .i64 T) := hb2.cellv (by simp [go_sem]); have s1 : w2.cell? ⟨w1.heap.size, 1, none⟩ = some (.int .i64 Z) := hb2.cellv (by simp [go_sem]); have s2 : w2.cell? ⟨w1.heap.size, 2, none⟩ = some (.slice none 0 0) := hb2.cellv (by simp [go_sem]); have s3 : w2.cell? ⟨w1.heap.size, 3, none⟩ = some (.int .i64 0) := hb2.cellv (by simp [go_sem]); have s4 : w2.cell? ⟨w1.heap.size, 4, none⟩ = some (.int .i64 0) := hb2.cellv (by simp [go_sem]); have s5 : w2.cell? ⟨w1.heap.size, 5, none⟩ = some (.slice none 0 0) := hb2.cellv (by simp [go_sem]); have tc2 : w2.cell? ⟨w.heap.size, 0, none⟩ = some (.slice A n c) := hb2.cellv (htc2 _))
      have hs2 : w.heap.size ≤ w2.heap.size := by have := hb2.size; simp at this; omega
      have hbw2 : Bw w w2 := hb1'.trans ((Bw.alloc (Bw.refl _) _).trans hb2)
      refine wp_region_inv 13 (fun listed a W => ∃ v : Nat → Value, a = ⟨#[.agg #[.slice A n c], .int .i64 t, .int .i64 z, .pointer (some ⟨w.heap.size, 0, none⟩), undef, undef, .pointer (some ⟨w.heap.size + 1, 0, none⟩), .bool false, .pointer (some ⟨w1.heap.size, 0, none⟩), .bool true, .int .i64 n, .tuple #[.agg #[.int .i64 T, .int .i64 Z, .slice none 0 0, .int .i64 0, .int .i64 0, .slice none 0 0], .bool true], .int .i64 t, .int .i64 z, .tuple #[.agg #[.int .i64 T, .int .i64 Z, .slice none 0 0, .int .i64 0, .int .i64 0, .slice none 0 0], .bool true], .agg #[.int .i64 T, .int .i64 Z, .slice none 0 0, .int .i64 0, .int .i64 0, .slice none 0 0], .bool true, .agg #[.slice A n c], .bool true, .bool false, .bool false, .bool true, .bool false, .bool false, undef, .pointer (some ⟨w.heap.size, 0, none⟩), .slice A n c, .int .i64 n, v 0, v 1, v 2, v 3, v 4, v 5, v 6, v 7, v 8, v 9, v 10, v 11, v 12, undef], []⟩ ∧ NI w2 w.heap.size w2.heap.size n c A ps (.agg #[.int .i64 T, .int .i64 Z, .slice none 0 0, .int .i64 0, .int .i64 0, .slice none 0 0]) listed v W) rfl (by kernel_rfl) (by kernel_rfl) (by decide) (by kernel_rfl) (by kernel_rfl) ?_ ?_ ?_
      · refine ⟨fun _ => undef, ?_, NI.start _ _ _ _ _ _ _ _ _ _ _ (Bw.drew (Bw.refl _))⟩
        rfl
      · intro listed a W i inv ⟨v, ha, hI⟩ hi hr
        subst ha
        obtain ⟨hl, o, ho, haft⟩ := mem_ready.1 hr
        have hl0 : listed.getD i false = false := getD_both hl
        obtain rfl | rfl | rfl | rfl | rfl | rfl | rfl | rfl | rfl | rfl | rfl | rfl | rfl : i = 0 ∨ i = 1 ∨ i = 2 ∨ i = 3 ∨ i = 4 ∨ i = 5 ∨ i = 6 ∨ i = 7 ∨ i = 8 ∨ i = 9 ∨ i = 10 ∨ i = 11 ∨ i = 12 := by omega
        · refine wpOp_step rfl (fun K hK => ?_)
          go_simp
          exact hK _ _ ⟨upd v 0 (.pointer (some ⟨w.heap.size, 0, none⟩)), rfl, hI.step hl0 (Bw.refl _) (upd_same _ _ _) (fun hx => absurd hx (by decide))⟩
        · cases ho
          have p0 := hI.ok 0 (haft ⟨0, .data⟩ (by simp) rfl)
          simp only [NOk] at p0
          have tc := hI.bw.cellv tc2
          rw [p0]
          refine wpOp_step rfl (fun K hK => ?_)
          go_simp
          exact hK _ _ ⟨upd v 1 (.slice A n c), by simp [upd, p0], hI.step hl0 (Bw.refl _) (upd_same _ _ _) (fun hx => absurd hx (by decide))⟩
        · cases ho
          have p1 := hI.ok 1 (haft ⟨1, .data⟩ (by simp) rfl)
          simp only [NOk] at p1
          rw [p1]
          refine wpOp_step rfl (fun K hK => ?_)
          go_simp
          refine (c_CloneInt A n c ps W hn (h.keep (hbw2.trans hI.bw))).mono ?_
          rintro e w3 ⟨⟨A3, c3, rfl, row3⟩, hb3⟩
          go_simp
          exact hK _ _ ⟨upd v 2 (.slice A3 n c3), by simp [upd, p1], hI.step hl0 hb3 ⟨A3, c3, upd_same _ _ _, row3.mono hI.bw.size⟩ (fun _ x hx => by
            cases A3 with
            | none => cases hx
            | some y => cases hx; exact row3.lt y rfl)⟩
        · cases ho
          have l2 := haft ⟨2, .data⟩ (by simp) rfl
          have p2 := hI.ok 2 l2
          simp only [NOk] at p2
          obtain ⟨B, d, p2, rowB⟩ := p2
          rw [p2]
          refine wpOp_step rfl (fun K hK => ?_)
          go_simp
          exact hK _ _ ⟨upd v 3 (.agg #[.slice B n d]), by simp [upd, p2], hI.step hl0 (Bw.refl _) ⟨getD_set_true l2, by simp [upd, p2]⟩ (fun hx => absurd hx (by decide))⟩
        · have s0 := hI.bw.cellv s0
          have s1 := hI.bw.cellv s1
          have s2 := hI.bw.cellv s2
          have s3 := hI.bw.cellv s3
          have s4 := hI.bw.cellv s4
          have s5 := hI.bw.cellv s5
          refine wpOp_step rfl (fun K hK => ?_)
          go_simp
          exact hK _ _ ⟨upd v 4 (.agg #[.int .i64 T, .int .i64 Z, .slice none 0 0, .int .i64 0, .int .i64 0, .slice none 0 0]), rfl, hI.step hl0 (Bw.refl _) (upd_same _ _ _) (fun hx => absurd hx (by decide))⟩
        · refine wpOp_step rfl (fun K hK => ?_)
          go_simp
          exact hK _ _ ⟨upd v 5 (.int .i64 n), rfl, hI.step hl0 (Bw.refl _) (upd_same _ _ _) (fun hx => absurd hx (by decide))⟩
        · cases ho
          have p := hI.ok 5 (haft ⟨5, .data⟩ (by simp) rfl)
          simp only [NOk] at p
          have hmk := mkE n hn
          rw [p]
          refine wpOp_step rfl (fun K hK => ?_)
          go_simp
          exact hK _ _ ⟨upd v 6 (.slice (some ⟨W.heap.size, 0, none⟩) n n), by simp [upd, p], hI.step hl0 (Bw.alloc (Bw.refl _) _) ⟨W.heap.size, upd_same _ _ _, rowE n hn W hI.bw.size⟩ (fun _ x hx => by cases hx; simp)⟩
        · refine wpOp_step rfl (fun K hK => ?_)
          go_simp
          exact hK _ _ ⟨upd v 7 (.int .i64 n), rfl, hI.step hl0 (Bw.refl _) (upd_same _ _ _) (fun hx => absurd hx (by decide))⟩
        · cases ho
          have p := hI.ok 7 (haft ⟨7, .data⟩ (by simp) rfl)
          simp only [NOk] at p
          have hmk := mkR n hn
          rw [p]
          refine wpOp_step rfl (fun K hK => ?_)
          go_simp
          exact hK _ _ ⟨upd v 8 (.slice (some ⟨W.heap.size, 0, none⟩) n n), by simp [upd, p], hI.step hl0 (Bw.alloc (Bw.refl _) _) ⟨W.heap.size, upd_same _ _ _, rowR n hn W hI.bw.size⟩ (fun _ x hx => by cases hx; simp)⟩
        · refine wpOp_step rfl (fun K hK => ?_)
          go_simp
          exact hK _ _ ⟨upd v 9 (.int .i64 n), rfl, hI.step hl0 (Bw.refl _) (upd_same _ _ _) (fun hx => absurd hx (by decide))⟩
        · cases ho
          have p := hI.ok 9 (haft ⟨9, .data⟩ (by simp) rfl)
          simp only [NOk] at p
          have hmk := mkQ n hn
          rw [p]
          refine wpOp_step rfl (fun K hK => ?_)
          go_simp
          exact hK _ _ ⟨upd v 10 (.slice (some ⟨W.heap.size, 0, none⟩) n n), by simp [upd, p], hI.step hl0 (Bw.alloc (Bw.refl _) _) ⟨W.heap.size, upd_same _ _ _, by simpa using rowQ n hn W hI.bw.size⟩ (fun _ x hx => by cases hx; simp)⟩
        · refine wpOp_step rfl (fun K hK => ?_)
          go_simp
          exact hK _ _ ⟨upd v 11 (.int .i64 n), rfl, hI.step hl0 (Bw.refl _) (upd_same _ _ _) (fun hx => absurd hx (by decide))⟩
        · cases ho
          have p := hI.ok 11 (haft ⟨11, .data⟩ (by simp) rfl)
          simp only [NOk] at p
          have hmk := mkQ n hn
          rw [p]
          refine wpOp_step rfl (fun K hK => ?_)
          go_simp
          exact hK _ _ ⟨upd v 12 (.slice (some ⟨W.heap.size, 0, none⟩) n n), by simp [upd, p], hI.step hl0 (Bw.alloc (Bw.refl _) _) ⟨W.heap.size, upd_same _ _ _, by simpa using rowQ n hn W hI.bw.size⟩ (fun _ x hx => by cases hx; simp)⟩
      · intro listed a W inv hall ⟨v, ha, hI⟩
        subst ha
        have hsz2 := inv.size
        obtain ⟨B, d, g1, g2, g3, g4, hR, e3, e4, e6, e8, e10, e12⟩ := hI.done (fun j hj => by
          have h1 := hall j hj
          have h2 : j < listed.size := by rw [hsz2]; simp; omega
          simpa [h2] using h1)
        rw [e3, e4, e6, e8, e10, e12]
        have ⟨q0, q1, q2, q3, q4, q5, q6, q7, q8, q9, q10, qf, ql⟩ := nz2.keep hI.bw
        have ql2 : w.heap.size + 1 < w2.heap.size := nz2.lt
        have hb := hbw2.trans hI.bw
        simp only [List.drop]
        go_wp2_with fail
        exact bodyPost_ret (v := .tuple #[.agg #[.slice B n d, .int .i64 T, .int .i64 Z, .slice none 0 0, .int .i64 0, .int .i64 0, .slice none 0 0, .slice (some ⟨g1, 0, none⟩) n n, .slice (some ⟨g2, 0, none⟩) n n, .slice (some ⟨g3, 0, none⟩) n n, .slice (some ⟨g4, 0, none⟩) n n], .bool true]) (by simp [results, Tryz.results8, go_sem, q0, q1, q2, q3, q4, q5, q6, q7, q8, q9, q10]) rfl ⟨⟨B, d, g1, g2, g3, g4, by rw [HT.out, HZ.out], NR.mono (((((((((((hR.store ⟨w.heap.size + 1, 0, none⟩ (.slice B n d) (by simp; omega)).store ⟨w.heap.size + 1, 1, none⟩ (.int .i64 T) (by simp; omega)).store ⟨w.heap.size + 1, 2, none⟩ (.int .i64 Z) (by simp; omega)).store ⟨w.heap.size + 1, 3, none⟩ (.slice none 0 0) (by simp; omega)).store ⟨w.heap.size + 1, 4, none⟩ (.int .i64 0) (by simp; omega)).store ⟨w.heap.size + 1, 5, none⟩ (.int .i64 0) (by simp; omega)).store ⟨w.heap.size + 1, 6, none⟩ (.slice none 0 0) (by simp; omega)).store ⟨w.heap.size + 1, 7, none⟩ (.slice (some ⟨g1, 0, none⟩) n n) (by simp; omega)).store ⟨w.heap.size + 1, 8, none⟩ (.slice (some ⟨g2, 0, none⟩) n n) (by simp; omega)).store ⟨w.heap.size + 1, 9, none⟩ (.slice (some ⟨g3, 0, none⟩) n n) (by simp; omega)).store ⟨w.heap.size + 1, 10, none⟩ (.slice (some ⟨g4, 0, none⟩) n n) (by simp; omega)) hs2⟩, (((((((((((hb.setCell (p := ⟨w.heap.size + 1, 0, none⟩) (by simp) (.slice B n d)).setCell (p := ⟨w.heap.size + 1, 1, none⟩) (by simp) (.int .i64 T)).setCell (p := ⟨w.heap.size + 1, 2, none⟩) (by simp) (.int .i64 Z)).setCell (p := ⟨w.heap.size + 1, 3, none⟩) (by simp) (.slice none 0 0)).setCell (p := ⟨w.heap.size + 1, 4, none⟩) (by simp) (.int .i64 0)).setCell (p := ⟨w.heap.size + 1, 5, none⟩) (by simp) (.int .i64 0)).setCell (p := ⟨w.heap.size + 1, 6, none⟩) (by simp) (.slice none 0 0)).setCell (p := ⟨w.heap.size + 1, 7, none⟩) (by simp) (.slice (some ⟨g1, 0, none⟩) n n)).setCell (p := ⟨w.heap.size + 1, 8, none⟩) (by simp) (.slice (some ⟨g2, 0, none⟩) n n)).setCell (p := ⟨w.heap.size + 1, 9, none⟩) (by simp) (.slice (some ⟨g3, 0, none⟩) n n)).setCell (p := ⟨w.heap.size + 1, 10, none⟩) (by simp) (.slice (some ⟨g4, 0, none⟩) n n))⟩
    · go_wp2_with (go_at_call 24; refine (c_IsValidTree _ _ _ ps HG.out _ (by omega) (h.keep (by (repeat (first | with_reducible assumption | exact Bw.refl _ | (with_reducible refine Bw.setCell ?_ (by simp) _) | (with_reducible refine Bw.alloc ?_ _) | (with_reducible refine Bw.drew ?_) | (with_reducible refine Bw.drewN ?_ _)))))).mono ?_; rintro e w2 ⟨rfl, hb2⟩; have nz2 := (nz1.keep (Bw.alloc (Bw.refl _) _)).keep hb2; have ⟨q0, q1, q2, q3, q4, q5, q6, q7, q8, q9, q10, qf, ql⟩ := nz2)
      have hb := hb1'.trans ((Bw.alloc (Bw.refl _) _).trans hb2)
      exact bodyPost_ret (v := .tuple #[.agg #[.slice none 0 0, .int .i64 0, .int .i64 0, .slice none 0 0, .int .i64 0, .int .i64 0, .slice none 0 0, .slice none 0 0, .slice none 0 0, .slice none 0 0, .slice none 0 0], .bool false]) (by simp [results, Tryz.results8, go_sem, q0, q1, q2, q3, q4, q5, q6, q7, q8, q9, q10]) rfl ⟨rfl, (((((((((((hb.setCell (p := ⟨w.heap.size + 1, 0, none⟩) (by simp) (.slice none 0 0)).setCell (p := ⟨w.heap.size + 1, 1, none⟩) (by simp) (.int .i64 0)).setCell (p := ⟨w.heap.size + 1, 2, none⟩) (by simp) (.int .i64 0)).setCell (p := ⟨w.heap.size + 1, 3, none⟩) (by simp) (.slice none 0 0)).setCell (p := ⟨w.heap.size + 1, 4, none⟩) (by simp) (.int .i64 0)).setCell (p := ⟨w.heap.size + 1, 5, none⟩) (by simp) (.int .i64 0)).setCell (p := ⟨w.heap.size + 1, 6, none⟩) (by simp) (.slice none 0 0)).setCell (p := ⟨w.heap.size + 1, 7, none⟩) (by simp) (.slice none 0 0)).setCell (p := ⟨w.heap.size + 1, 8, none⟩) (by simp) (.slice none 0 0)).setCell (p := ⟨w.heap.size + 1, 9, none⟩) (by simp) (.slice none 0 0)).setCell (p := ⟨w.heap.size + 1, 10, none⟩) (by simp) (.slice none 0 0))⟩
  · go_wp2_with (go_at_call 24; refine (c_IsValidTree _ _ _ ps HG.out _ (by omega) (h.keep (by (repeat (first | with_reducible assumption | exact Bw.refl _ | (with_reducible refine Bw.setCell ?_ (by simp) _) | (with_reducible refine Bw.alloc ?_ _) | (with_reducible refine Bw.drew ?_) | (with_reducible refine Bw.drewN ?_ _)))))).mono ?_; rintro e w2 ⟨rfl, hb2⟩; have nz2 := (nz1.keep (Bw.alloc (Bw.refl _) _)).keep hb2; have ⟨q0, q1, q2, q3, q4, q5, q6, q7, q8, q9, q10, qf, ql⟩ := nz2)
    all_goals
     have hb := hb1'.trans ((Bw.alloc (Bw.refl _) _).trans hb2)
     exact bodyPost_ret (v := .tuple #[.agg #[.slice none 0 0, .int .i64 0, .int .i64 0, .slice none 0 0, .int .i64 0, .int .i64 0, .slice none 0 0, .slice none 0 0, .slice none 0 0, .slice none 0 0, .slice none 0 0], .bool false]) (by simp [results, Tryz.results8, go_sem, q0, q1, q2, q3, q4, q5, q6, q7, q8, q9, q10]) rfl ⟨rfl, (((((((((((hb.setCell (p := ⟨w.heap.size + 1, 0, none⟩) (by simp) (.slice none 0 0)).setCell (p := ⟨w.heap.size + 1, 1, none⟩) (by simp) (.int .i64 0)).setCell (p := ⟨w.heap.size + 1, 2, none⟩) (by simp) (.int .i64 0)).setCell (p := ⟨w.heap.size + 1, 3, none⟩) (by simp) (.slice none 0 0)).setCell (p := ⟨w.heap.size + 1, 4, none⟩) (by simp) (.int .i64 0)).setCell (p := ⟨w.heap.size + 1, 5, none⟩) (by simp) (.int .i64 0)).setCell (p := ⟨w.heap.size + 1, 6, none⟩) (by simp) (.slice none 0 0)).setCell (p := ⟨w.heap.size + 1, 7, none⟩) (by simp) (.slice none 0 0)).setCell (p := ⟨w.heap.size + 1, 8, none⟩) (by simp) (.slice none 0 0)).setCell (p := ⟨w.heap.size + 1, 9, none⟩) (by simp) (.slice none 0 0)).setCell (p := ⟨w.heap.size + 1, 10, none⟩) (by simp) (.slice none 0 0))⟩
set_option maxRecDepth 100000 in
theorem c_sNewNet (A : Option Addr) (n c : Nat) (ps : List Int) (t z : Int) {r g : Bool} (hr : srcB t z [] 0 0 [] = r) (hg : goodP ps = g) (w : World) (hn : n ≤ 1048576) (h : Rd w A n 1 (ps.map icell)) :
    Calls Tryz.prog 6 #[.agg #[.slice A n c], .int .i64 t, .int .i64 z] w fun e w' => (if (r && g) = true then NetOut n ps (nsT t z) (nsZ t z) w w' e else NetNo e) ∧ Bw w w' := by
  have hbx := ((Bw.refl w).alloc (.cells #[.slice A n c] 26))
  have hbs : ∀ o, Bw w ((w.alloc (.cells #[.slice A n c] 26)).alloc o) := fun o => hbx.alloc o
  have HG := Lib.hid hg
  have HR := Lib.hid hr
  clear hg hr
  go_enter Tryz.func6, Tryz.ntmps6
  go_wp2_with fail
  refine (c_sNewSource t z _).mono ?_
  rintro e w1 ⟨rfl, hb1⟩
  have hb1' := (hbs _).trans hb1
  rw [HR.out]
  generalize hT : nsT t z = T
  generalize hZ : nsZ t z = Z
  have HT := Lib.hid hT
  have HZ := Lib.hid hZ
  clear hT hZ
  have hsz : w.heap.size + 2 ≤ w1.heap.size := by have := hb1.size; simpa using this
  have htc1 : w1.cell? ⟨w.heap.size, 0, none⟩ = some (.slice A n c) := hb1.cellv (by simp [go_sem])
  have htc2 : ∀ o, (w1.alloc o).cell? ⟨w.heap.size, 0, none⟩ = some (.slice A n c) := fun o => (((Bw.refl w1).alloc o).cellv htc1)
  have nz1 : Nz w1 (w.heap.size + 1) := by
    have := (Nz.new (w.alloc (.cells #[.slice A n c] 26)) 37).keep hb1
    simpa using this
  have hfr : ∀ j, w.frozen? ⟨w.heap.size + 1, j, none⟩ = w.frozen? ⟨w.heap.size + 1, j, none⟩ := fun _ => rfl
  clear hfr
  rcases Bool.eq_false_or_eq_true r with rfl | rfl
  · rcases Bool.eq_false_or_eq_true g with rfl | rfl
    · go_wp2_with (go_at_call 20; refine (c_l6Good _ _ _ ps HG.out _ (by omega) (h.keep (by (repeat (first | with_reducible assumption | exact Bw.refl _ | (with_reducible refine Bw.setCell ?_ (by simp) _) | (with_reducible refine Bw.alloc ?_ _) | (with_reducible refine Bw.drew ?_) | (with_reducible refine Bw.drewN ?_ _)))))).mono ?_; rintro e w2 ⟨rfl, hb2⟩; have nz2 := (nz1.keep (Bw.alloc (Bw.refl _) _)).keep hb2; have s0 : w2.cell? ⟨w1.heap.size, 0, none⟩ = some (.int .i64 T) := hb2.cellv (by simp [go_sem]); have s1 : w2.cell? ⟨w1.heap.size, 1, none⟩ = some (.int .i64 Z) := hb2.cellv (by simp [go_sem]); have s2 : w2.cell? ⟨w1.heap.size, 2, none⟩ = some (.slice none 0 0) := hb2.cellv (by simp [go_sem]); have s3 : w2.cell? ⟨w1.heap.size, 3, none⟩ = some (.int .i64 0) := hb2.cellv (by simp [go_sem]); have s4 : w2.cell? ⟨w1.heap.size, 4, none⟩ = some (.int .i64 0) := hb2.cellv (by simp [go_sem]); have s5 : w2.cell? ⟨w1.heap.size, 5, none⟩ = some (.slice none 0 0) := hb2.cellv (by simp [go_sem]); have tc2 : w2.cell? ⟨w.heap.size, 0, none⟩ = some (.slice A n c) := hb2.cellv (htc2 _))
      have hs2 : w.heap.size ≤ w2.heap.size := by have := hb2.size; simp at this; omega
      have hbw2 : Bw w w2 := hb1'.trans ((Bw.alloc (Bw.refl _) _).trans hb2)
      refine wp_region_inv 13 (fun listed a W => ∃ v : Nat → Value, a = ⟨#[.agg #[.slice A n c], .int .i64 t, .int .i64 z, .pointer (some ⟨w.heap.size, 0, none⟩), undef, undef, .pointer (some ⟨w.heap.size + 1, 0, none⟩), .bool false, .pointer (some ⟨w1.heap.size, 0, none⟩), .bool true, .int .i64 n, .tuple #[.agg #[.int .i64 T, .int .i64 Z, .slice none 0 0, .int .i64 0, .int .i64 0, .slice none 0 0], .bool true], .int .i64 t, .int .i64 z, .tuple #[.agg #[.int .i64 T, .int .i64 Z, .slice none 0 0, .int .i64 0, .int .i64 0, .slice none 0 0], .bool true], .agg #[.int .i64 T, .int .i64 Z, .slice none 0 0, .int .i64 0, .int .i64 0, .slice none 0 0], .bool true, .agg #[.slice A n c], .bool true, .bool false, .bool false, .bool true, .bool false, .bool false, undef, .pointer (some ⟨w.heap.size, 0, none⟩), .slice A n c, .int .i64 n, v 0, v 1, v 2, v 3, v 4, v 5, v 6, v 7, v 8, v 9, v 10, v 11, v 12, undef], []⟩ ∧ NI w2 w.heap.size w2.heap.size n c A ps (.agg #[.int .i64 T, .int .i64 Z, .slice none 0 0, .int .i64 0, .int .i64 0, .slice none 0 0]) listed v W) rfl (by kernel_rfl) (by kernel_rfl) (by decide) (by kernel_rfl) (by kernel_rfl) ?_ ?_ ?_
      · refine ⟨fun _ => undef, ?_, NI.start _ _ _ _ _ _ _ _ _ _ _ (Bw.drew (Bw.refl _))⟩
        rfl
      · intro listed a W i inv ⟨v, ha, hI⟩ hi hr
        subst ha
        obtain ⟨hl, o, ho, haft⟩ := mem_ready.1 hr
        have hl0 : listed.getD i false = false := getD_both hl
        obtain rfl | rfl | rfl | rfl | rfl | rfl | rfl | rfl | rfl | rfl | rfl | rfl | rfl : i = 0 ∨ i = 1 ∨ i = 2 ∨ i = 3 ∨ i = 4 ∨ i = 5 ∨ i = 6 ∨ i = 7 ∨ i = 8 ∨ i = 9 ∨ i = 10 ∨ i = 11 ∨ i = 12 := by omega
        · refine wpOp_step rfl (fun K hK => ?_)
          go_simp
          exact hK _ _ ⟨upd v 0 (.pointer (some ⟨w.heap.size, 0, none⟩)), rfl, hI.step hl0 (Bw.refl _) (upd_same _ _ _) (fun hx => absurd hx (by decide))⟩
        · cases ho
          have p0 := hI.ok 0 (haft ⟨0, .data⟩ (by simp) rfl)
          simp only [NOk] at p0
          have tc := hI.bw.cellv tc2
          rw [p0]
          refine wpOp_step rfl (fun K hK => ?_)
          go_simp
          exact hK _ _ ⟨upd v 1 (.slice A n c), by simp [upd, p0], hI.step hl0 (Bw.refl _) (upd_same _ _ _) (fun hx => absurd hx (by decide))⟩
        · cases ho
          have p1 := hI.ok 1 (haft ⟨1, .data⟩ (by simp) rfl)
          simp only [NOk] at p1
          rw [p1]
          refine wpOp_step rfl (fun K hK => ?_)
          go_simp
          refine (c_l1Own A n c ps W hn (h.keep (hbw2.trans hI.bw))).mono ?_
          rintro e w3 ⟨⟨A3, c3, rfl, row3⟩, hb3⟩
          go_simp
          exact hK _ _ ⟨upd v 2 (.slice A3 n c3), by simp [upd, p1], hI.step hl0 hb3 ⟨A3, c3, upd_same _ _ _, row3.mono hI.bw.size⟩ (fun _ x hx => by
            cases A3 with
            | none => cases hx
            | some y => cases hx; exact row3.lt y rfl)⟩
        · cases ho
          have l2 := haft ⟨2, .data⟩ (by simp) rfl
          have p2 := hI.ok 2 l2
          simp only [NOk] at p2
          obtain ⟨B, d, p2, rowB⟩ := p2
          rw [p2]
          refine wpOp_step rfl (fun K hK => ?_)
          go_simp
          exact hK _ _ ⟨upd v 3 (.agg #[.slice B n d]), by simp [upd, p2], hI.step hl0 (Bw.refl _) ⟨getD_set_true l2, by simp [upd, p2]⟩ (fun hx => absurd hx (by decide))⟩
        · have s0 := hI.bw.cellv s0
          have s1 := hI.bw.cellv s1
          have s2 := hI.bw.cellv s2
          have s3 := hI.bw.cellv s3
          have s4 := hI.bw.cellv s4
          have s5 := hI.bw.cellv s5
          refine wpOp_step rfl (fun K hK => ?_)
          go_simp
          exact hK _ _ ⟨upd v 4 (.agg #[.int .i64 T, .int .i64 Z, .slice none 0 0, .int .i64 0, .int .i64 0, .slice none 0 0]), rfl, hI.step hl0 (Bw.refl _) (upd_same _ _ _) (fun hx => absurd hx (by decide))⟩
        · refine wpOp_step rfl (fun K hK => ?_)
          go_simp
          exact hK _ _ ⟨upd v 5 (.int .i64 n), rfl, hI.step hl0 (Bw.refl _) (upd_same _ _ _) (fun hx => absurd hx (by decide))⟩
        · cases ho
          have p := hI.ok 5 (haft ⟨5, .data⟩ (by simp) rfl)
          simp only [NOk] at p
          have hmk := mkE n hn
          rw [p]
          refine wpOp_step rfl (fun K hK => ?_)
          go_simp
          exact hK _ _ ⟨upd v 6 (.slice (some ⟨W.heap.size, 0, none⟩) n n), by simp [upd, p], hI.step hl0 (Bw.alloc (Bw.refl _) _) ⟨W.heap.size, upd_same _ _ _, rowE n hn W hI.bw.size⟩ (fun _ x hx => by cases hx; simp)⟩
        · refine wpOp_step rfl (fun K hK => ?_)
          go_simp
          exact hK _ _ ⟨upd v 7 (.int .i64 n), rfl, hI.step hl0 (Bw.refl _) (upd_same _ _ _) (fun hx => absurd hx (by decide))⟩
        · cases ho
          have p := hI.ok 7 (haft ⟨7, .data⟩ (by simp) rfl)
          simp only [NOk] at p
          have hmk := mkR n hn
          rw [p]
          refine wpOp_step rfl (fun K hK => ?_)
          go_simp
          exact hK _ _ ⟨upd v 8 (.slice (some ⟨W.heap.size, 0, none⟩) n n), by simp [upd, p], hI.step hl0 (Bw.alloc (Bw.refl _) _) ⟨W.heap.size, upd_same _ _ _, rowR n hn W hI.bw.size⟩ (fun _ x hx => by cases hx; simp)⟩
        · refine wpOp_step rfl (fun K hK => ?_)
          go_simp
          exact hK _ _ ⟨upd v 9 (.int .i64 n), rfl, hI.step hl0 (Bw.refl _) (upd_same _ _ _) (fun hx => absurd hx (by decide))⟩
        · cases ho
          have p := hI.ok 9 (haft ⟨9, .data⟩ (by simp) rfl)
          simp only [NOk] at p
          have hmk := mkQ n hn
          rw [p]
          refine wpOp_step rfl (fun K hK => ?_)
          go_simp
          exact hK _ _ ⟨upd v 10 (.slice (some ⟨W.heap.size, 0, none⟩) n n), by simp [upd, p], hI.step hl0 (Bw.alloc (Bw.refl _) _) ⟨W.heap.size, upd_same _ _ _, by simpa using rowQ n hn W hI.bw.size⟩ (fun _ x hx => by cases hx; simp)⟩
        · refine wpOp_step rfl (fun K hK => ?_)
          go_simp
          exact hK _ _ ⟨upd v 11 (.int .i64 n), rfl, hI.step hl0 (Bw.refl _) (upd_same _ _ _) (fun hx => absurd hx (by decide))⟩
        · cases ho
          have p := hI.ok 11 (haft ⟨11, .data⟩ (by simp) rfl)
          simp only [NOk] at p
          have hmk := mkQ n hn
          rw [p]
          refine wpOp_step rfl (fun K hK => ?_)
          go_simp
          exact hK _ _ ⟨upd v 12 (.slice (some ⟨W.heap.size, 0, none⟩) n n), by simp [upd, p], hI.step hl0 (Bw.alloc (Bw.refl _) _) ⟨W.heap.size, upd_same _ _ _, by simpa using rowQ n hn W hI.bw.size⟩ (fun _ x hx => by cases hx; simp)⟩
      · intro listed a W inv hall ⟨v, ha, hI⟩
        subst ha
        have hsz2 := inv.size
        obtain ⟨B, d, g1, g2, g3, g4, hR, e3, e4, e6, e8, e10, e12⟩ := hI.done (fun j hj => by
          have h1 := hall j hj
          have h2 : j < listed.size := by rw [hsz2]; simp; omega
          simpa [h2] using h1)
        rw [e3, e4, e6, e8, e10, e12]
        have ⟨q0, q1, q2, q3, q4, q5, q6, q7, q8, q9, q10, qf, ql⟩ := nz2.keep hI.bw
        have ql2 : w.heap.size + 1 < w2.heap.size := nz2.lt
        have hb := hbw2.trans hI.bw
        simp only [List.drop]
        go_wp2_with fail
        exact bodyPost_ret (v := .tuple #[.agg #[.slice B n d, .int .i64 T, .int .i64 Z, .slice none 0 0, .int .i64 0, .int .i64 0, .slice none 0 0, .slice (some ⟨g1, 0, none⟩) n n, .slice (some ⟨g2, 0, none⟩) n n, .slice (some ⟨g3, 0, none⟩) n n, .slice (some ⟨g4, 0, none⟩) n n], .bool true]) (by simp [results, Tryz.results6, go_sem, q0, q1, q2, q3, q4, q5, q6, q7, q8, q9, q10]) rfl ⟨⟨B, d, g1, g2, g3, g4, by rw [HT.out, HZ.out], NR.mono (((((((((((hR.store ⟨w.heap.size + 1, 0, none⟩ (.slice B n d) (by simp; omega)).store ⟨w.heap.size + 1, 1, none⟩ (.int .i64 T) (by simp; omega)).store ⟨w.heap.size + 1, 2, none⟩ (.int .i64 Z) (by simp; omega)).store ⟨w.heap.size + 1, 3, none⟩ (.slice none 0 0) (by simp; omega)).store ⟨w.heap.size + 1, 4, none⟩ (.int .i64 0) (by simp; omega)).store ⟨w.heap.size + 1, 5, none⟩ (.int .i64 0) (by simp; omega)).store ⟨w.heap.size + 1, 6, none⟩ (.slice none 0 0) (by simp; omega)).store ⟨w.heap.size + 1, 7, none⟩ (.slice (some ⟨g1, 0, none⟩) n n) (by simp; omega)).store ⟨w.heap.size + 1, 8, none⟩ (.slice (some ⟨g2, 0, none⟩) n n) (by simp; omega)).store ⟨w.heap.size + 1, 9, none⟩ (.slice (some ⟨g3, 0, none⟩) n n) (by simp; omega)).store ⟨w.heap.size + 1, 10, none⟩ (.slice (some ⟨g4, 0, none⟩) n n) (by simp; omega)) hs2⟩, (((((((((((hb.setCell (p := ⟨w.heap.size + 1, 0, none⟩) (by simp) (.slice B n d)).setCell (p := ⟨w.heap.size + 1, 1, none⟩) (by simp) (.int .i64 T)).setCell (p := ⟨w.heap.size + 1, 2, none⟩) (by simp) (.int .i64 Z)).setCell (p := ⟨w.heap.size + 1, 3, none⟩) (by simp) (.slice none 0 0)).setCell (p := ⟨w.heap.size + 1, 4, none⟩) (by simp) (.int .i64 0)).setCell (p := ⟨w.heap.size + 1, 5, none⟩) (by simp) (.int .i64 0)).setCell (p := ⟨w.heap.size + 1, 6, none⟩) (by simp) (.slice none 0 0)).setCell (p := ⟨w.heap.size + 1, 7, none⟩) (by simp) (.slice (some ⟨g1, 0, none⟩) n n)).setCell (p := ⟨w.heap.size + 1, 8, none⟩) (by simp) (.slice (some ⟨g2, 0, none⟩) n n)).setCell (p := ⟨w.heap.size + 1, 9, none⟩) (by simp) (.slice (some ⟨g3, 0, none⟩) n n)).setCell (p := ⟨w.heap.size + 1, 10, none⟩) (by simp) (.slice (some ⟨g4, 0, none⟩) n n))⟩
    · go_wp2_with (go_at_call 20; refine (c_l6Good _ _ _ ps HG.out _ (by omega) (h.keep (by (repeat (first | with_reducible assumption | exact Bw.refl _ | (with_reducible refine Bw.setCell ?_ (by simp) _) | (with_reducible refine Bw.alloc ?_ _) | (with_reducible refine Bw.drew ?_) | (with_reducible refine Bw.drewN ?_ _)))))).mono ?_; rintro e w2 ⟨rfl, hb2⟩; have nz2 := (nz1.keep (Bw.alloc (Bw.refl _) _)).keep hb2; have ⟨q0, q1, q2, q3, q4, q5, q6, q7, q8, q9, q10, qf, ql⟩ := nz2)
      have hb := hb1'.trans ((Bw.alloc (Bw.refl _) _).trans hb2)
      exact bodyPost_ret (v := .tuple #[.agg #[.slice none 0 0, .int .i64 0, .int .i64 0, .slice none 0 0, .int .i64 0, .int .i64 0, .slice none 0 0, .slice none 0 0, .slice none 0 0, .slice none 0 0, .slice none 0 0], .bool false]) (by simp [results, Tryz.results6, go_sem, q0, q1, q2, q3, q4, q5, q6, q7, q8, q9, q10]) rfl ⟨rfl, (((((((((((hb.setCell (p := ⟨w.heap.size + 1, 0, none⟩) (by simp) (.slice none 0 0)).setCell (p := ⟨w.heap.size + 1, 1, none⟩) (by simp) (.int .i64 0)).setCell (p := ⟨w.heap.size + 1, 2, none⟩) (by simp) (.int .i64 0)).setCell (p := ⟨w.heap.size + 1, 3, none⟩) (by simp) (.slice none 0 0)).setCell (p := ⟨w.heap.size + 1, 4, none⟩) (by simp) (.int .i64 0)).setCell (p := ⟨w.heap.size + 1, 5, none⟩) (by simp) (.int .i64 0)).setCell (p := ⟨w.heap.size + 1, 6, none⟩) (by simp) (.slice none 0 0)).setCell (p := ⟨w.heap.size + 1, 7, none⟩) (by simp) (.slice none 0 0)).setCell (p := ⟨w.heap.size + 1, 8, none⟩) (by simp) (.slice none 0 0)).setCell (p := ⟨w.heap.size + 1, 9, none⟩) (by simp) (.slice none 0 0)).setCell (p := ⟨w.heap.size + 1, 10, none⟩) (by simp) (.slice none 0 0))⟩
  · go_wp2_with (go_at_call 20; refine (c_l6Good _ _ _ ps HG.out _ (by omega) (h.keep (by (repeat (first | with_reducible assumption | exact Bw.refl _ | (with_reducible refine Bw.setCell ?_ (by simp) _) | (with_reducible refine Bw.alloc ?_ _) | (with_reducible refine Bw.drew ?_) | (with_reducible refine Bw.drewN ?_ _)))))).mono ?_; rintro e w2 ⟨rfl, hb2⟩; have nz2 := (nz1.keep (Bw.alloc (Bw.refl _) _)).keep hb2; have ⟨q0, q1, q2, q3, q4, q5, q6, q7, q8, q9, q10, qf, ql⟩ := nz2)
    all_goals
     have hb := hb1'.trans ((Bw.alloc (Bw.refl _) _).trans hb2)
     exact bodyPost_ret (v := .tuple #[.agg #[.slice none 0 0, .int .i64 0, .int .i64 0, .slice none 0 0, .int .i64 0, .int .i64 0, .slice none 0 0, .slice none 0 0, .slice none 0 0, .slice none 0 0, .slice none 0 0], .bool false]) (by simp [results, Tryz.results6, go_sem, q0, q1, q2, q3, q4, q5, q6, q7, q8, q9, q10]) rfl ⟨rfl, (((((((((((hb.setCell (p := ⟨w.heap.size + 1, 0, none⟩) (by simp) (.slice none 0 0)).setCell (p := ⟨w.heap.size + 1, 1, none⟩) (by simp) (.int .i64 0)).setCell (p := ⟨w.heap.size + 1, 2, none⟩) (by simp) (.int .i64 0)).setCell (p := ⟨w.heap.size + 1, 3, none⟩) (by simp) (.slice none 0 0)).setCell (p := ⟨w.heap.size + 1, 4, none⟩) (by simp) (.int .i64 0)).setCell (p := ⟨w.heap.size + 1, 5, none⟩) (by simp) (.int .i64 0)).setCell (p := ⟨w.heap.size + 1, 6, none⟩) (by simp) (.slice none 0 0)).setCell (p := ⟨w.heap.size + 1, 7, none⟩) (by simp) (.slice none 0 0)).setCell (p := ⟨w.heap.size + 1, 8, none⟩) (by simp) (.slice none 0 0)).setCell (p := ⟨w.heap.size + 1, 9, none⟩) (by simp) (.slice none 0 0)).setCell (p := ⟨w.heap.size + 1, 10, none⟩) (by simp) (.slice none 0 0))⟩
end Go.Proofs.YtpjljbhodnlhmaaGreatDoor
