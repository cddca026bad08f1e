
/- Marks in an element. -/
import Derived.Test.YtajfmfeegiicaaaE7
namespace Go.Proofs.Ytajfmfeegiicaaa
open Go.RowKit
/-- Entries in block g that may be marked: numbers stand where numbers stand, each entry's faces are a row of the call's own. -/
structure MarkE (w : World) (lo g n : Nat) (ts : List Ent) : Prop where
  cells : ∀ j, j < n → ∃ a u : Int, w.cell? ⟨g, j * 3, none⟩ = some (.int .i64 a) ∧ w.cell? ⟨g, j * 3 + 1, none⟩ = some (.slice (entAt ts j).A (entAt ts j).n (entAt ts j).c) ∧ w.cell? ⟨g, j * 3 + 2, none⟩ = some (.int .i64 u)
  fz : ∀ j, w.frozen? ⟨g, j, none⟩ = false
  lt : g < w.heap.size
  fs : ∀ j, j < n → ∃ fs, Row w lo 3 1 icell (entAt ts j).A (entAt ts j).n (entAt ts j).c fs
section
variable {w w' : World} {lo g n : Nat} {ts : List Ent}
theorem MarkE.of {A : Option Addr} {c : Nat} {es : List Ev} (h : RowE w lo A n c es ts) (hn : 0 < n) : ∃ g, A = some ⟨g, 0, none⟩ ∧ lo ≤ g ∧ MarkE w lo g n ts := by
  obtain ⟨g, rfl, h1, h2⟩ := h.row.form hn
  obtain ⟨b, off, hA, _, hc⟩ := h.rd.at_ hn
  simp only [Option.some.injEq, Addr.mk.injEq, and_true] at hA
  obtain ⟨rfl, rfl⟩ := hA
  refine ⟨g, rfl, h1, fun j hj => ⟨_, _, by simpa using (hc j hj).1, by simpa using (hc j hj).2.1, by simpa using (hc j hj).2.2⟩, fun j => h.row.frozen j, h2, fun j hj => ⟨_, h.fs j hj⟩⟩
theorem MarkE.set {x : Int} (h : MarkE w lo g n ts) {p : Nat} (hp : ∃ k, k < n ∧ (p = k * 3 ∨ p = k * 3 + 2)) (hne : ∀ j, j < n → ∀ y, (entAt ts j).A = some y → y.block ≠ g) : MarkE (w.setCell ⟨g, p, none⟩ (.int .i64 x)) lo g n ts := by
  obtain ⟨k, hk, hp⟩ := hp
  refine ⟨fun j hj => ?_, fun j => by rw [World.frozen?_setCell]; exact h.fz j, by simpa using h.lt, fun j hj => (h.fs j hj).elim fun fs hf => ⟨fs, hf.grown (grown_setCell w _ _) (fun y hy he => hne j hj y hy (Option.some.inj he).symm)⟩⟩
  obtain ⟨a, u, h0, h1, h2⟩ := h.cells j hj
  have far : ∀ q, q ≠ p → (w.setCell ⟨g, p, none⟩ (.int .i64 x)).cell? ⟨g, q, none⟩ = w.cell? ⟨g, q, none⟩ := fun q hq => World.cell?_setCell_other _ _ _ _ (fun he => by simp only [Addr.mk.injEq, true_and, and_true] at he; omega)
  have e1 : (w.setCell ⟨g, p, none⟩ (.int .i64 x)).cell? ⟨g, j * 3 + 1, none⟩ = some (.slice (entAt ts j).A (entAt ts j).n (entAt ts j).c) := by rw [far _ (by omega)]; exact h1
  by_cases q0 : j * 3 = p
  · refine ⟨x, u, ?_, e1, by rw [far _ (by omega)]; exact h2⟩
    rw [q0] at h0 ⊢
    exact World.cell?_setCell_same _ _ _ h0
  · by_cases q2 : j * 3 + 2 = p
    · refine ⟨a, x, by rw [far _ (by omega)]; exact h0, e1, ?_⟩
      rw [q2] at h2 ⊢
      exact World.cell?_setCell_same _ _ _ h2
    · exact ⟨a, u, by rw [far _ q0]; exact h0, e1, by rw [far _ q2]; exact h2⟩
theorem MarkE.face {k : Nat} {fk : List Int} (h : MarkE w lo g n ts) (hg : w.grownBy w' (Value.ownBlock (.slice (entAt ts k).A (entAt ts k).n (entAt ts k).c))) (hr : Row w' lo 3 1 icell (entAt ts k).A (entAt ts k).n (entAt ts k).c fk) (hk : k < n)
    (hne0 : ∀ j, j < n → ∀ y, (entAt ts j).A = some y → y.block ≠ g) (hne : ∀ i j, i < n → j < n → i ≠ j → ∀ x y, (entAt ts i).A = some x → (entAt ts j).A = some y → x.block ≠ y.block) : MarkE w' lo g n ts := by
  have hg0 : ∀ q, some (⟨g, q, none⟩ : Addr).block ≠ Value.ownBlock (.slice (entAt ts k).A (entAt ts k).n (entAt ts k).c) := fun q he => by
    cases hA : (entAt ts k).A with
    | none => rw [hA] at he; simp [Value.ownBlock] at he
    | some y => rw [hA] at he; simp only [Value.ownBlock, Option.some.injEq] at he; exact hne0 k hk y hA he.symm
  refine ⟨fun j hj => ?_, fun j => (hg.frozen_far ⟨g, j, none⟩ h.lt (hg0 j)).trans (h.fz j), Nat.lt_of_lt_of_le h.lt hg.size, fun j hj => ?_⟩
  · obtain ⟨a, u, h0, h1, h2⟩ := h.cells j hj
    exact ⟨a, u, hg.cell h0 (hg0 _), hg.cell h1 (hg0 _), hg.cell h2 (hg0 _)⟩
  · by_cases hjk : j = k
    · subst hjk; exact ⟨fk, hr⟩
    · obtain ⟨fs, hf⟩ := h.fs j hj
      refine ⟨fs, hf.grown hg (fun x hx he => ?_)⟩
      cases hA : (entAt ts k).A with
      | none => rw [hA] at he; simp [Value.ownBlock] at he
      | some y => rw [hA] at he; simp only [Value.ownBlock, Option.some.injEq] at he; exact hne j k hj hk hjk x y hx hA he.symm
end
/-- A row that lies elsewhere is not touched. -/
theorem Row.off {T : Type} {w w' : World} {lo : Nat} {e : TypeId} {sz : Nat} {enc : T → List Value} {A B : Option Addr} {n c m d hi : Nat} {ts : List T} (h : Row w lo e sz enc A n c ts) (hg : w.grownBy w' (Value.ownBlock (.slice B m d))) (hA : ∀ x, A = some x → hi ≤ x.block) (hB : ∀ x, B = some x → x.block < hi) : Row w' lo e sz enc A n c ts :=
  h.grown hg (fun x hx he => by
    cases B with
    | none => simp [Value.ownBlock] at he
    | some y =>
      have h1 := hA x hx
      have h2 := hB y rfl
      simp only [Value.ownBlock, Option.some.injEq] at he
      omega)
set_option maxRecDepth 100000 in
theorem c_markEntryS (A : Option Addr) (n c : Nat) (es : List Ev) (ts : List Ent) (k0 : Int) (lo hi lo2 : Nat) (G : Option Addr) (m d : Nat) (L : List Int) (w : World) (hn : n ≤ 1048576) (hk0 : 0 ≤ k0) (hk1 : k0 ≤ 1000000000) (hm2 : ∀ k, k < n → (entAt ts k).n ≤ 1048576)
    (h : RowE w lo A n c es ts) (hlo : lo ≤ w.heap.size) (hiA : ∀ x, A = some x → x.block < hi) (hiF : ∀ k, k < n → ∀ x, (entAt ts k).A = some x → x.block < hi) (hG : Row w lo2 3 1 icell G m d L) (hiG : ∀ x, G = some x → hi ≤ x.block) :
    Calls Try.prog 34 #[.slice A n c, .int .i64 k0] w fun e w' => (∃ k' : Int, e = .returned (.int .i64 k') ∧ 0 ≤ k') ∧ Row w' lo2 3 1 icell G m d L ∧ Below lo w w' := by
  have HM2 := Lib.hid hm2
  clear hm2
  rcases Nat.eq_zero_or_pos n with h0 | hn0
  · subst h0
    go_enter Try.func34, Try.ntmps34
    go_wp2
    go_loopw [1, 5] (fun kv i wr => i = .int .i64 0 ∧ kv = .int .i64 k0 ∧ wr = w) (fun _ _ _ => 0)
    case atStart => exact ⟨rfl, rfl, rfl⟩
    case round =>
      obtain ⟨rfl, rfl, rfl⟩ := hrel
      go_wp2
      go_ret
      exact ⟨⟨_, rfl, hk0⟩, hG, Below.refl _ _⟩
  · obtain ⟨g, rfl, hlg, hmk⟩ := MarkE.of h hn0
    have N0 := Lib.hid (fun j hj y hy => h.ne0 j hj y _ hy rfl)
    have N1 := Lib.hid h.ne
    have HF := Lib.hid hiF
    have hgi := hiA _ rfl
    dsimp only at hgi
    clear h hiF hiA
    go_enter Try.func34, Try.ntmps34
    go_wp2
    go_loopw [1, 5] (fun kv i wr => ∃ (k : Nat) (q : Int), k ≤ n ∧ i = .int .i64 k ∧ kv = .int .i64 q ∧ 0 ≤ q ∧ q ≤ 1000000000 + k * 1048578 ∧ MarkE wr lo g n ts ∧ Row wr lo2 3 1 icell G m d L ∧ Below lo w wr) (fun _ i _ => n - (intOf i).toNat)
    case atStart => exact ⟨0, k0, Nat.zero_le _, rfl, rfl, hk0, by omega, hmk, hG, Below.refl _ _⟩
    case round =>
      obtain ⟨k, q, hk, rfl, rfl, hq0, hq1, hmr, hgr, hbl⟩ := hrel
      by_cases hlt : k < n
      · obtain ⟨a, u, h0, h1, h2⟩ := hmr.cells k hlt
        have fz := hmr.fz
        have hS := hmr.set (x := q) (p := k * 3) ⟨k, hlt, .inl rfl⟩ N0.out
        have hgS : Row (wr.setCell ⟨g, k * 3, none⟩ (.int .i64 q)) lo2 3 1 icell G m d L := hgr.grown (grown_setCell wr _ _) (fun x hx he => by have := hiG x hx; have he := Option.some.inj he; dsimp only at he; omega)
        have hbS : Below lo w (wr.setCell ⟨g, k * 3, none⟩ (.int .i64 q)) := hbl.setCell hlg _
        obtain ⟨fk, hfk⟩ := hS.fs k hlt
        obtain ⟨a', u', g0, g1, g2⟩ := hS.cells k hlt
        have fS := hS.fz
        have hnk := HM2.out k hlt
        go_wp2_with fail
        refine (c_markIntS _ _ _ fk (q + 1) lo _ hnk (by omega) (by omega) hfk).mono ?_
        rintro e w1 ⟨rfl, row1, hg1⟩
        have hT := hS.face hg1 row1 hlt N0.out N1.out
        have hgT := hgS.off hg1 hiG (HF.out k hlt)
        have hbT : Below lo w w1 := hbS.grown hg1 (Nat.le_trans hlo (hbS.size)) (fun j hj => by
          cases hA : (entAt ts k).A with
          | none => rw [hA] at hj; simp [Value.ownBlock] at hj
          | some y => rw [hA] at hj; simp only [Value.ownBlock, Option.some.injEq] at hj; have := (hfk.lt y hA).1; omega)
        obtain ⟨a2, u2, p0, p1, p2⟩ := hT.cells k hlt
        have fT := hT.fz
        go_wp2_with fail
        go_roundw
        case rel => exact ⟨k + 1, _, by omega, by go_num, rfl, by omega, by omega, hT.set ⟨k, hlt, .inr rfl⟩ N0.out, hgT.grown (grown_setCell w1 _ _) (fun x hx he => by have := hiG x hx; have he := Option.some.inj he; dsimp only at he; omega), hbT.setCell hlg _⟩
        case measure => simp [intOf]; omega
      · go_wp2
        go_ret
        exact ⟨⟨_, rfl, hq0⟩, hgr, hbl⟩
theorem c_markElement (t : Int) (A : Option Addr) (n c : Nat) (es : List Ev) (ts : List Ent) (k0 : Int) (lo hi lo2 : Nat) (G : Option Addr) (m d : Nat) (L : List Int) (w : World) (hn : n ≤ 1048576) (hk0 : 0 ≤ k0) (hk1 : k0 ≤ 1000000000) (hm2 : ∀ k, k < n → (entAt ts k).n ≤ 1048576)
    (h : RowE w lo A n c es ts) (hlo : lo ≤ w.heap.size) (hiA : ∀ x, A = some x → x.block < hi) (hiF : ∀ k, k < n → ∀ x, (entAt ts k).A = some x → x.block < hi) (hG : Row w lo2 3 1 icell G m d L) (hiG : ∀ x, G = some x → hi ≤ x.block) :
    Calls Try.prog 16 #[.agg #[.int .i64 t, .slice A n c], .int .i64 k0] w fun e w' => (∃ k' : Int, e = .returned (.int .i64 k') ∧ 0 ≤ k') ∧ Row w' lo2 3 1 icell G m d L ∧ Below lo w w' := by
  have hb0 := (Bw.refl w).alloc (.cells #[.int .i64 t, .slice A n c] 29)
  go_enter Try.func16, Try.ntmps16
  go_wp2_with (go_at_call 34; refine (c_markEntryS _ _ _ es ts k0 lo hi lo2 G m d L _ hn hk0 hk1 hm2 (h.keep hb0) (Nat.le_trans hlo hb0.size) hiA hiF (hG.keep hb0) hiG).mono ?_; rintro e w1 ⟨⟨k', rfl, hk'⟩, hG1, hb1⟩)
  go_ret
  exact ⟨⟨_, rfl, hk'⟩, hG1, (hb0.b.mono hlo).trans hb1⟩
end Go.Proofs.Ytajfmfeegiicaaa
