
/- ParseEntries: marks of an element and what is held of them, to the letter. -/
import Derived.Test.YtajfmfeegiicaaaDoorY4
namespace Go.Proofs.YtajfmfeegiicaaaDoor
open Go.RowKit
/-- Only blocks from lo to hi may have changed. -/
structure Band (lo hi : Nat) (w w' : World) : Prop where
  os : w'.os = w.os
  tape : w'.tape = w.tape
  output : w'.output = w.output
  size : w.heap.size ≤ w'.heap.size
  block : ∀ k, k < w.heap.size → (k < lo ∨ hi ≤ k) → w'.heap[k]? = w.heap[k]?
section
variable {lo hi : Nat} {a w w' : World}
theorem Band.refl (lo hi : Nat) (w : World) : Band lo hi w w := ⟨rfl, rfl, rfl, Nat.le_refl _, fun _ _ _ => rfl⟩
theorem Band.grown {row : Option Nat} (h : Band lo hi a w) (hg : w.grownBy w' row) (hr : ∀ k, row = some k → lo ≤ k ∧ k < hi) : Band lo hi a w' :=
  ⟨hg.os.trans h.os, hg.tape.trans h.tape, hg.output.trans h.output, Nat.le_trans h.size hg.size, fun k hk hh => (hg.block k (Nat.lt_of_lt_of_le hk h.size) (fun e => by have := hr k e.symm; omega)).trans (h.block k hk hh)⟩
theorem Band.setCell (h : Band lo hi a w) {p : Addr} (h1 : lo ≤ p.block) (h2 : p.block < hi) (u : Value) : Band lo hi a (w.setCell p u) :=
  h.grown (ysetg w p u) (fun k hk => by simp only [Option.some.injEq] at hk; omega)
theorem Band.below (h : Band lo hi w w') (hlo : lo ≤ w.heap.size) : Below lo w w' :=
  ⟨h.os, h.tape, h.output, h.size, fun k hk => h.block k (by omega) (.inl hk)⟩
theorem Band.cellv (h : Band lo hi w w') {p : Addr} {v : Value} (hc : w.cell? p = some v) (hp : p.block < lo ∨ hi ≤ p.block) : w'.cell? p = some v :=
  (World.cell?_of_block (w := w) (h.block p.block (World.block_lt_of_cell? w p hc) hp)).trans hc
theorem Bw.band {b : World} (h : Bw a b) (hb : Band lo hi b w) (hlo : a.heap.size ≤ lo) : Bw a w :=
  ⟨⟨hb.os.trans h.b.os, hb.tape.trans h.b.tape, hb.output.trans h.b.output, Nat.le_trans h.b.size hb.size, fun k hk => (hb.block k (Nat.lt_of_lt_of_le hk h.b.size) (.inl (by omega))).trans (h.b.block k hk)⟩⟩
end
/-- Where entry j's marks begin. -/
def mst (ts : List Ent) (k0 : Int) : Nat → Int
  | 0 => k0
  | j + 1 => mst ts k0 j + 2 + (entAt ts j).n
theorem mst_bd (ts : List Ent) (k0 : Int) (h0 : 0 ≤ k0) (h1 : k0 ≤ 1000) (n : Nat) (hn : n ≤ 100) (hm : ∀ k, k < n → (entAt ts k).n ≤ 100) : ∀ j, j ≤ n → 0 ≤ mst ts k0 j ∧ mst ts k0 j ≤ 1000 + 102 * j
  | 0, _ => ⟨h0, by simp [mst]; exact h1⟩
  | j + 1, hj => by
    have ih := mst_bd ts k0 h0 h1 n hn hm j (by omega)
    have := hm j (by omega)
    simp only [mst]
    omega
/-- Entries in block g, those before m marked from k0 on. -/
structure MkE (w : World) (lo g n m : Nat) (k0 : Int) (ts : List Ent) : Prop where
  cells : ∀ j, j < n → ∃ a u : Int, w.cell? ⟨g, j * 3, none⟩ = some (.int .i64 a) ∧ w.cell? ⟨g, j * 3 + 1, none⟩ = some (.slice (entAt ts j).A (entAt ts j).n (entAt ts j).c) ∧ w.cell? ⟨g, j * 3 + 2, none⟩ = some (.int .i64 u) ∧ (j < m → a = mst ts k0 j ∧ u = mst ts k0 j + 1 + (entAt ts j).n)
  fz : ∀ j, w.frozen? ⟨g, j, none⟩ = false
  lt : g < w.heap.size
  fs : ∀ j, j < n → ∃ fs, Row w lo 3 1 icell (entAt ts j).A (entAt ts j).n (entAt ts j).c fs ∧ (j < m → fs = marksI (entAt ts j).n (mst ts k0 j + 1))
section
variable {w w' : World} {lo g n m : Nat} {k0 : Int} {ts : List Ent}
theorem MkE.of {A : Option Addr} {c : Nat} {es : List Ev} (k0 : Int) (h : RowE w lo A n c es ts) (hn : 0 < n) : ∃ g, A = some ⟨g, 0, none⟩ ∧ lo ≤ g ∧ MkE w lo g n 0 k0 ts := by
  obtain ⟨g, rfl, h1, h2⟩ := h.row.form hn
  obtain ⟨b, off, hA, _, hc⟩ := h.rd.at_ hn
  simp only [Option.some.injEq, Addr.mk.injEq, and_true] at hA
  obtain ⟨rfl, rfl⟩ := hA
  refine ⟨g, rfl, h1, fun j hj => ⟨_, _, by simpa using (hc j hj).1, by simpa using (hc j hj).2.1, by simpa using (hc j hj).2.2, fun h => absurd h (by omega)⟩, fun j => h.row.frozen j, h2, fun j hj => ⟨_, h.fs j hj, fun h => absurd h (by omega)⟩⟩
theorem MkE.keep (h : MkE w lo g n m k0 ts) (hb : Bw w w') : MkE w' lo g n m k0 ts :=
  ⟨fun j hj => let ⟨a, u, h0, h1, h2, h3⟩ := h.cells j hj; ⟨a, u, hb.cellv h0, hb.cellv h1, hb.cellv h2, h3⟩, fun j => (hb.frz ⟨g, j, none⟩ h.lt).trans (h.fz j), Nat.lt_of_lt_of_le h.lt hb.size, fun j hj => let ⟨fs, h0, h1⟩ := h.fs j hj; ⟨fs, h0.keep hb, h1⟩⟩
/-- One entry's marks, cell by cell: number, faces, until. -/
theorem MkE.step {fk : List Int} (h : MkE w lo g n m k0 ts) (hm : m < n) (hne0 : ∀ j, j < n → ∀ y, (entAt ts j).A = some y → y.block ≠ g) (hne : ∀ i j, i < n → j < n → i ≠ j → ∀ x y, (entAt ts i).A = some x → (entAt ts j).A = some y → x.block ≠ y.block)
    {w1 : World} (hr : Row w1 lo 3 1 icell (entAt ts m).A (entAt ts m).n (entAt ts m).c fk) (hfk : fk = marksI (entAt ts m).n (mst ts k0 m + 1))
    (hg : (w.setCell ⟨g, m * 3, none⟩ (.int .i64 (mst ts k0 m))).grownBy w1 (Value.ownBlock (.slice (entAt ts m).A (entAt ts m).n (entAt ts m).c))) :
    MkE (w1.setCell ⟨g, m * 3 + 2, none⟩ (.int .i64 (mst ts k0 m + 1 + (entAt ts m).n))) lo g n (m + 1) k0 ts := by
  have g0 := ysetg w ⟨g, m * 3, none⟩ (.int .i64 (mst ts k0 m))
  have gz := ysetg w1 ⟨g, m * 3 + 2, none⟩ (.int .i64 (mst ts k0 m + 1 + (entAt ts m).n))
  have hgA : some g ≠ Value.ownBlock (.slice (entAt ts m).A (entAt ts m).n (entAt ts m).c) := own_neq (fun x hx => hne0 m hm x hx)
  refine ⟨fun j hj => ?_, fun j => ?_, ?_, fun j hj => ?_⟩
  · obtain ⟨a, u, h0, h1, h2, h3⟩ := h.cells j hj
    have far : ∀ (v : World) (p q : Nat) (x : Value), p ≠ q → (v.setCell ⟨g, p, none⟩ x).cell? ⟨g, q, none⟩ = v.cell? ⟨g, q, none⟩ := fun v p q x hq => World.cell?_setCell_other _ _ _ _ (fun he => by simp only [Addr.mk.injEq, true_and, and_true] at he; omega)
    have mid : ∀ (q : Nat) (v : Value), (w.setCell ⟨g, m * 3, none⟩ (.int .i64 (mst ts k0 m))).cell? ⟨g, q, none⟩ = some v → w1.cell? ⟨g, q, none⟩ = some v := fun q v hv => hg.cell hv hgA
    by_cases hjm : j = m
    · subst hjm
      refine ⟨mst ts k0 j, mst ts k0 j + 1 + (entAt ts j).n, ?_, ?_, ?_, fun _ => ⟨rfl, rfl⟩⟩
      · rw [far _ _ _ _ (by omega)]; exact mid _ _ (World.cell?_setCell_same _ _ _ h0)
      · rw [far _ _ _ _ (by omega)]; exact mid _ _ (by rw [far _ _ _ _ (by omega)]; exact h1)
      · exact World.cell?_setCell_same _ _ _ (mid _ _ (by rw [far _ _ _ _ (by omega)]; exact h2))
    · refine ⟨a, u, ?_, ?_, ?_, fun hlt => h3 (by omega)⟩
      · rw [far _ _ _ _ (by omega)]; exact mid _ _ (by rw [far _ _ _ _ (by omega)]; exact h0)
      · rw [far _ _ _ _ (by omega)]; exact mid _ _ (by rw [far _ _ _ _ (by omega)]; exact h1)
      · rw [far _ _ _ _ (by omega)]; exact mid _ _ (by rw [far _ _ _ _ (by omega)]; exact h2)
  · rw [World.frozen?_setCell]
    exact (hg.frozen_far ⟨g, j, none⟩ (by simpa using h.lt) hgA).trans ((World.frozen?_setCell _ _ _ _).trans (h.fz j))
  · have := hg.size
    have := h.lt
    simp only [World.size_setCell] at *
    omega
  · by_cases hjm : j = m
    · subst hjm
      exact ⟨fk, hr.grown gz (fun x hx he => hne0 j hj x hx (Option.some.inj he).symm), fun _ => hfk⟩
    · obtain ⟨fs, hf, hk⟩ := h.fs j hj
      exact ⟨fs, ((hf.grown g0 (fun x hx he => hne0 j hj x hx (Option.some.inj he).symm)).grown hg (own_neq2 (fun x y hx hy => hne m j hm hj (fun e => hjm e.symm) x y hx hy))).grown gz (fun x hx he => hne0 j hj x hx (Option.some.inj he).symm), fun hlt => hk (by omega)⟩
end
set_option maxRecDepth 100000 in
theorem c_markEntryS1 (A : Option Addr) (n c : Nat) (es : List Ev) (ts : List Ent) (k0 : Int) (lo : Nat) (w : World) (hn : n ≤ 100) (hk0 : 0 ≤ k0) (hk1 : k0 ≤ 1000) (hm2 : ∀ k, k < n → (entAt ts k).n ≤ 100) (h : RowE w lo A n c es ts) (hlo : lo ≤ w.heap.size) (hi : Nat) (hiA : ∀ x, A = some x → x.block < hi) (hiF : ∀ k, k < n → ∀ x, (entAt ts k).A = some x → x.block < hi) :
    Calls Tryd.prog 26 #[.slice A n c, .int .i64 k0] w fun e w' => e = .returned (.int .i64 (mst ts k0 n)) ∧ (n = 0 ∨ ∃ g, A = some ⟨g, 0, none⟩ ∧ MkE w' lo g n n k0 ts) ∧ Band lo hi w w' := by
  have HM2 := Lib.hid hm2
  have HMB := Lib.hid (mst_bd ts k0 hk0 hk1 n hn hm2)
  clear hm2
  rcases Nat.eq_zero_or_pos n with h0 | hn0
  · subst h0
    go_enter Tryd.func26, Tryd.ntmps26
    go_wp2
    go_loopw [1, 5] (fun kv i wr => i = .int .i64 0 ∧ kv = .int .i64 k0 ∧ wr = w) (fun _ _ _ => 0)
    case atStart => exact ⟨rfl, rfl, rfl⟩
    case round =>
      obtain ⟨rfl, rfl, rfl⟩ := hrel
      go_wp2
      go_ret
      exact ⟨rfl, by simp, Band.refl _ _ _⟩
  · obtain ⟨g, rfl, hlg, hmk⟩ := MkE.of k0 h hn0
    have N0 := Lib.hid (fun j hj y hy => h.ne0 j hj y _ hy rfl)
    have N1 := Lib.hid h.ne
    have hgi : g < hi := hiA _ rfl
    have HIF := Lib.hid hiF
    clear hiA hiF
    clear h
    go_enter Tryd.func26, Tryd.ntmps26
    go_wp2
    go_loopw [1, 5] (fun kv i wr => ∃ (k : Nat), k ≤ n ∧ i = .int .i64 k ∧ kv = .int .i64 (mst ts k0 k) ∧ MkE wr lo g n k k0 ts ∧ Band lo hi w wr) (fun _ i _ => n - (intOf i).toNat)
    case atStart => exact ⟨0, Nat.zero_le _, rfl, rfl, hmk, Band.refl _ _ _⟩
    case round =>
      obtain ⟨k, hk, rfl, rfl, hmr, hbl⟩ := hrel
      have ⟨b0, b1⟩ := HMB.out k hk
      by_cases hlt : k < n
      · obtain ⟨a, u, h0, h1, h2, _⟩ := hmr.cells k hlt
        have fz := hmr.fz
        have HS := Lib.hid (fun (fk : List Int) (w1 : World) hr hfk hg => hmr.step (fk := fk) (w1 := w1) hlt N0.out N1.out hr hfk hg)
        obtain ⟨fs, hfs, _⟩ := hmr.fs k hlt
        have HQ := Lib.hid (show mst ts k0 (k + 1) = mst ts k0 k + 2 + (entAt ts k).n from rfl)
        have hnk := HM2.out k hlt
        have N0k := Lib.hid (N0.out k hlt)
        have HI0 := Lib.hid (HIF.out k hlt)
        generalize hms : mst ts k0 k = q at *
        generalize hek : entAt ts k = E at *
        obtain ⟨Ev0, EA, En, Ec⟩ := E
        dsimp only at hnk
        have hfs1 := hfs.grown (ysetg wr ⟨g, k * 3, none⟩ (.int .i64 q)) (fun x hx he => N0k.out x hx (Option.some.inj he).symm)
        have hgA : some g ≠ Value.ownBlock (.slice EA En Ec) := own_neq (fun x hx => N0k.out x hx)
        go_wp2_with fail
        refine (c_markIntS _ _ _ fs (q + 1) lo _ (by omega) (by omega) (by omega) hfs1).mono ?_
        rintro e w1 ⟨rfl, row1, hg1⟩
        have HT := Lib.hid (HS.out _ _ row1 rfl hg1)
        have d1 := (hg1.cell (World.cell?_setCell_other _ _ _ _ (by simp) |>.trans h1) hgA)
        have d2 := (hg1.cell (World.cell?_setCell_other _ _ _ _ (by simp) |>.trans h2) hgA)
        have df : w1.frozen? ⟨g, k * 3 + 2, none⟩ = false := (hg1.frozen_far ⟨g, k * 3 + 2, none⟩ (by simpa using hmr.lt) hgA).trans ((World.frozen?_setCell _ _ _ _).trans (fz _))
        have hbT : Band lo hi w w1 := (hbl.setCell hlg hgi _).grown hg1 (fun j hj => by
          cases EA with
          | none => simp [Value.ownBlock] at hj
          | some y => simp only [Value.ownBlock, Option.some.injEq] at hj; have := (hfs.lt y rfl).1; have := HI0.out y rfl; omega)
        go_wp2_with fail
        go_roundw
        case rel => exact ⟨k + 1, by omega, by go_num, by rw [HQ.out]; congr 1; omega, HT.out, hbT.setCell hlg hgi _⟩
        case measure => simp [intOf]; omega
      · obtain rfl : k = n := by omega
        go_wp2
        go_ret
        exact ⟨rfl, .inr ⟨g, rfl, hmr⟩, hbl⟩
set_option maxRecDepth 100000 in
theorem c_heldEntryS1 (A : Option Addr) (n c : Nat) (ts : List Ent) (k0 : Int) (lo : Nat) (w : World) (hn : n ≤ 100) (hk0 : 0 ≤ k0) (hk1 : k0 ≤ 1000) (hm2 : ∀ k, k < n → (entAt ts k).n ≤ 100) (h : n = 0 ∨ ∃ g, A = some ⟨g, 0, none⟩ ∧ MkE w lo g n n k0 ts) :
    Calls Tryd.prog 27 #[.slice A n c, .int .i64 k0] w fun e w' => e = .returned (.int .i64 (mst ts k0 n)) ∧ w = w' := by
  have HM2 := Lib.hid hm2
  have HMB := Lib.hid (mst_bd ts k0 hk0 hk1 n hn hm2)
  clear hm2
  rcases h with h0 | ⟨g, rfl, hmk⟩
  · subst h0
    go_enter Tryd.func27, Tryd.ntmps27
    go_wp2
    go_loop [1, 5] (fun kv i => i = .int .i64 0 ∧ kv = .int .i64 k0) (fun _ _ => 0)
    case atStart => exact ⟨rfl, rfl⟩
    case round =>
      obtain ⟨rfl, rfl⟩ := hrel
      go_wp2
      go_ret
      exact ⟨rfl, rfl⟩
  · go_enter Tryd.func27, Tryd.ntmps27
    go_wp2
    go_loop [1, 5] (fun kv i => ∃ (k : Nat), k ≤ n ∧ i = .int .i64 k ∧ kv = .int .i64 (mst ts k0 k)) (fun _ i => n - (intOf i).toNat)
    case atStart => exact ⟨0, Nat.zero_le _, rfl, rfl⟩
    case round =>
      obtain ⟨k, hk, rfl, rfl⟩ := hrel
      have ⟨b0, b1⟩ := HMB.out k hk
      by_cases hlt : k < n
      · obtain ⟨a, u, h0, h1, h2, h3⟩ := hmk.cells k hlt
        obtain ⟨rfl, rfl⟩ := h3 hlt
        obtain ⟨fs, hfs, h4⟩ := hmk.fs k hlt
        obtain rfl := h4 hlt
        have HQ := Lib.hid (show mst ts k0 (k + 1) = mst ts k0 k + 2 + (entAt ts k).n from rfl)
        have hnk := HM2.out k hlt
        generalize mst ts k0 k = q at *
        generalize entAt ts k = E at *
        obtain ⟨Ev0, EA, En, Ec⟩ := E
        dsimp only at hnk h1 h2 hfs HQ
        have rdf := hfs.rd (fun _ => rfl)
        have hne1 : ¬ q + 1 + (En : Int) < 0 := by omega
        go_wp2_with (go_at_call 48; refine (c_heldIntS _ _ _ (q + 1) _ (by omega) (by omega) (by omega) rdf).mono ?_; rintro e _ ⟨rfl, rfl⟩)
        go_round
        case rel => exact ⟨k + 1, by omega, by go_num, by rw [HQ.out]; congr 1; omega⟩
        case measure => simp [intOf]; omega
      · obtain rfl : k = n := by omega
        go_wp2
        go_ret
        exact ⟨rfl, rfl⟩
theorem c_markElement1 (t : Int) (A : Option Addr) (n c : Nat) (es : List Ev) (ts : List Ent) (k0 : Int) (lo : Nat) (w : World) (hn : n ≤ 100) (hk0 : 0 ≤ k0) (hk1 : k0 ≤ 1000) (hm2 : ∀ k, k < n → (entAt ts k).n ≤ 100) (h : RowE w lo A n c es ts) (hlo : lo ≤ w.heap.size) (hi : Nat) (hiA : ∀ x, A = some x → x.block < hi) (hiF : ∀ k, k < n → ∀ x, (entAt ts k).A = some x → x.block < hi) :
    Calls Tryd.prog 12 #[.agg #[.int .i64 t, .slice A n c], .int .i64 k0] w fun e w' => e = .returned (.int .i64 (mst ts k0 n)) ∧ (n = 0 ∨ ∃ g, A = some ⟨g, 0, none⟩ ∧ MkE w' lo g n n k0 ts) ∧ Band lo hi w w' := by
  have hb0 := (Bw.refl w).alloc (.cells #[.int .i64 t, .slice A n c] 30)
  go_enter Tryd.func12, Tryd.ntmps12
  go_wp2_with (go_at_call 26; refine (c_markEntryS1 _ _ _ es ts k0 lo _ hn hk0 hk1 hm2 (h.keep hb0) (Nat.le_trans hlo hb0.size) hi hiA hiF).mono ?_; rintro e w1 ⟨rfl, hG1, hb1⟩)
  go_ret
  exact ⟨rfl, hG1, ⟨hb1.os, hb1.tape, hb1.output, Nat.le_trans (by simp) hb1.size, fun k hk hh => (hb1.block k (by simp; omega) hh).trans (Below.heap_alloc w _ k hk)⟩⟩
theorem c_heldElement1 (t : Int) (A : Option Addr) (n c : Nat) (ts : List Ent) (k0 : Int) (lo : Nat) (w : World) (hn : n ≤ 100) (hk0 : 0 ≤ k0) (hk1 : k0 ≤ 1000) (hm2 : ∀ k, k < n → (entAt ts k).n ≤ 100) (h : n = 0 ∨ ∃ g, A = some ⟨g, 0, none⟩ ∧ MkE w lo g n n k0 ts) :
    Calls Tryd.prog 13 #[.agg #[.int .i64 t, .slice A n c], .int .i64 k0] w fun e w' => e = .returned (.int .i64 (mst ts k0 n)) ∧ Bw w w' := by
  have hb0 := (Bw.refl w).alloc (.cells #[.int .i64 t, .slice A n c] 30)
  have hmb := mst_bd ts k0 hk0 hk1 n hn hm2 n (Nat.le_refl _)
  have hge : ¬ mst ts k0 n < 0 := by omega
  go_enter Tryd.func13, Tryd.ntmps13
  go_wp2_with (go_at_call 27; refine (c_heldEntryS1 _ _ _ ts k0 lo _ hn hk0 hk1 hm2 (h.imp id (fun ⟨g, hA, hM⟩ => ⟨g, hA, hM.keep hb0⟩))).mono ?_; rintro e w1 ⟨rfl, rfl⟩)
  go_ret
  exact ⟨rfl, hb0⟩
end Go.Proofs.YtajfmfeegiicaaaDoor
