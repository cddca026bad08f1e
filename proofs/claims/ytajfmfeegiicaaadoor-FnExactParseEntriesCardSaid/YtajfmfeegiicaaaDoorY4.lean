
/- ParseEntries: the element while it is read. -/
import Derived.Test.YtajfmfeegiicaaaDoorY3
namespace Go.Proofs.YtajfmfeegiicaaaDoor
open Go.RowKit Go.Shelf
theorem oneEnt : ∀ (t : Ent) (u : Value), u ∈ t.cells → u.oneCell' = true := by
  intro t u hu; simp [Ent.cells] at hu; rcases hu with rfl | rfl | rfl <;> rfl
theorem append_ent {w0 : World} {lo : Nat} {ops : Array Oper} {rest : List Oper} {o : Oper} {a : Act} {Q : Exit → Act → World → Prop} (hgd : o.guard = none) (s x : Operand)
    (ho : o.op = .call { callee := .builtin .append, args := #[s, x], argTypes := #[28, 28] }) (A : Option Addr) (n c : Nat) (xs : List Ent) (hs : a.eval s = .slice A n c) (hown : Row w0 lo 49 3 Ent.cells A n c xs) (nu un : Int) (F : Option Addr) (m d : Nat) (fs : List Int)
    (B : Nat) (hx : a.eval x = .slice (some ⟨B, 0, none⟩) 1 1) (hB : w0.heap.size = B) (hn : n < 2000000) (hlo : lo ≤ w0.heap.size)
    (h : ∀ A2 c2 w', Row w' lo 49 3 Ent.cells A2 (n + 1) c2 (xs ++ [⟨⟨nu, un, fs⟩, F, m, d⟩]) → w0.grownBy w' (Value.ownBlock (.slice A n c)) → (∃ x, A2 = some x ∧ (w0.heap.size ≤ x.block ∨ ∃ y, A = some y ∧ x.block = y.block)) → wpList Tryd.prog ops Q rest (a.put o.dst (.slice A2 (n + 1) c2)) w') : wpList Tryd.prog ops Q (o :: rest) a (w0.alloc (.cells #[.int .i64 nu, .slice F m d, .int .i64 un] 49)) := by
  subst hB
  obtain ⟨i0, hi, hz0, hz1, hz2⟩ := info_parts infoEnt
  refine wpList_append_rd (enc := Ent.cells) hgd s x 28 ho lo 49 i0 (.agg #[.int .i64 0, .slice none 0 0, .int .i64 0]) 3 40 Tryd.underlying28 hi hz0 hz1 hz2 rfl (by decide) (fun _ => rfl) oneEnt A n c xs hs (hown.keep (Bw.alloc (Bw.refl _) _)) _ 1 1 [⟨⟨nu, un, fs⟩, F, m, d⟩] hx (Rd.one _ _ _ _ 3 rfl) (by unfold maxLen; omega) (by omega) (by simp; omega) ?_
  intro A2 c2 w' h1 h2 h3 h4
  refine h A2 c2 w' h1 ((World.grownBy_alloc w0 _ _).trans h2) ?_
  rcases h3 with h3 | ⟨x, hx, h5 | h5⟩
  · cases hA : A2 with
    | none => exact absurd hA (h4 (by omega))
    | some x => exact ⟨x, rfl, .inr ⟨x, by rw [← h3]; exact hA, rfl⟩⟩
  · exact ⟨x, hx, .inl (by rw [h5]; simp)⟩
  · exact ⟨x, hx, .inr h5⟩
theorem entAt_old {ts : List Ent} {t : Ent} {k : Nat} (hk : k < ts.length) : entAt (ts ++ [t]) k = entAt ts k := by
  simp [entAt, List.getElem?_append_left hk]
theorem entAt_new (ts : List Ent) (t : Ent) : entAt (ts ++ [t]) ts.length = t := by simp [entAt]
theorem RowE.nil (w : World) (lo : Nat) : RowE w lo none 0 0 [] [] :=
  ⟨Row.nil _ _ _ _ _, rfl, fun k hk => absurd hk (by omega), fun k hk => absurd hk (by omega), fun j k hj => absurd hj (by omega)⟩
theorem RowE.flt {w : World} {lo : Nat} {A : Option Addr} {n c : Nat} {es : List Ev} {ts : List Ent} (h : RowE w lo A n c es ts) {k : Nat} (hk : k < n) {x : Addr} (hx : (entAt ts k).A = some x) : lo ≤ x.block ∧ x.block < w.heap.size := (h.fs k hk).lt x hx
theorem RowE.push {w w' : World} {lo : Nat} {A A2 : Option Addr} {n c c2 : Nat} {es : List Ev} {ts : List Ent} {v : Ev} {F : Option Addr} {m d : Nat} (h : RowE w lo A n c es ts) (hF : Row w lo 3 1 icell F m d v.fs)
    (f0 : ∀ x y, F = some x → A = some y → x.block ≠ y.block) (f1 : ∀ j, j < n → ∀ x y, F = some x → (entAt ts j).A = some y → x.block ≠ y.block)
    (hr : Row w' lo 49 3 Ent.cells A2 (n + 1) c2 (ts ++ [⟨v, F, m, d⟩])) (hg : w.grownBy w' (Value.ownBlock (.slice A n c))) (hmv : ∃ x, A2 = some x ∧ (w.heap.size ≤ x.block ∨ ∃ y, A = some y ∧ x.block = y.block)) :
    RowE w' lo A2 (n + 1) c2 (es ++ [v]) (ts ++ [⟨v, F, m, d⟩]) := by
  have hl := h.tlen
  have old : ∀ k, k < n → entAt (ts ++ [(⟨v, F, m, d⟩ : Ent)]) k = entAt ts k := fun k hk => entAt_old (by omega)
  have new : entAt (ts ++ [(⟨v, F, m, d⟩ : Ent)]) n = ⟨v, F, m, d⟩ := by rw [← hl]; exact entAt_new _ _
  have fresh : ∀ (z : Addr), z.block < w.heap.size → (∀ y, A = some y → z.block ≠ y.block) → ∀ y, A2 = some y → z.block ≠ y.block := by
    intro z hz hne y hy
    obtain ⟨x, hx, hh⟩ := hmv
    rw [hx] at hy; injection hy with hy; subst hy
    rcases hh with hh | ⟨u, hu, hh⟩
    · omega
    · rw [hh]; exact hne u hu
  refine ⟨hr, by simp [h.vs], fun k hk => ?_, fun k hk x y hx hy => ?_, fun j k hj hk hjk x y hx hy => ?_⟩
  · rcases Nat.lt_succ_iff_lt_or_eq.1 hk with hk | rfl
    · rw [old k hk]
      exact (h.fs k hk).grown hg (own_neq2 (fun x y hx hy e => h.ne0 k hk y x hy hx e.symm))
    · rw [new]
      exact hF.grown hg (own_neq2 (fun x y hx hy e => f0 y x hy hx e.symm))
  · rcases Nat.lt_succ_iff_lt_or_eq.1 hk with hk | rfl
    · rw [old k hk] at hx
      exact fresh x (h.flt hk hx).2 (fun u hu => h.ne0 k hk x u hx hu) y hy
    · rw [new] at hx
      exact fresh x (hF.lt x hx).2 (fun u hu => f0 x u hx hu) y hy
  · rcases Nat.lt_succ_iff_lt_or_eq.1 hj with hj | rfl
    · rw [old j hj] at hx
      rcases Nat.lt_succ_iff_lt_or_eq.1 hk with hk | rfl
      · rw [old k hk] at hy
        exact h.ne j k hj hk hjk x y hx hy
      · rw [new] at hy
        exact (f1 j hj y x hy hx).symm
    · rw [new] at hx
      rcases Nat.lt_succ_iff_lt_or_eq.1 hk with hk | rfl
      · rw [old k hk] at hy
        exact f1 k hk x y hx hy
      · omega
/-- The element while it is read: its box, two boxes that stand still, its entries, the words. -/
structure PE (w0 w : World) (lo r1 r2 q : Nat) (ck : Int) (A : Option Addr) (n c : Nat) (es : List Ev) (ts : List Ent) (Aw : Option Addr) (nw cw : Nat) (ws : List ByteArray) : Prop where
  l1 : w0.heap.size ≤ r1
  l1' : r1 < lo
  l2 : w0.heap.size ≤ r2
  l2' : r2 < lo
  lq : lo ≤ q
  t0 : w.cell? ⟨q, 0, none⟩ = some (.int .i64 ck)
  t1 : w.cell? ⟨q, 1, none⟩ = some (.slice A n c)
  tf : ∀ j, w.frozen? ⟨q, j, none⟩ = false
  a0 : w.cell? ⟨r1, 0, none⟩ = some (.int .i64 0)
  a1 : w.cell? ⟨r1, 1, none⟩ = some (.slice none 0 0)
  af : ∀ j, w.frozen? ⟨r1, j, none⟩ = false
  b0 : w.cell? ⟨r2, 0, none⟩ = some (.int .i64 0)
  b1 : w.cell? ⟨r2, 1, none⟩ = some (.slice none 0 0)
  row : RowE w lo A n c es ts
  nq : ∀ x, A = some x → x.block ≠ q
  fq : ∀ k, k < n → ∀ x, (entAt ts k).A = some x → x.block ≠ q
  wrow : Row w lo 9 1 scell Aw nw cw ws
  wq : ∀ x, Aw = some x → x.block ≠ q
  dis : ∀ x y, A = some x → Aw = some y → x.block ≠ y.block
  b : Bw w0 w
section
variable {w0 w w' : World} {lo r1 r2 q : Nat} {ck : Int} {A : Option Addr} {n c : Nat} {es : List Ev} {ts : List Ent} {Aw : Option Addr} {nw cw : Nat} {ws : List ByteArray}
theorem PE.keep (h : PE w0 w lo r1 r2 q ck A n c es ts Aw nw cw ws) (hb : Bw w w') : PE w0 w' lo r1 r2 q ck A n c es ts Aw nw cw ws :=
  have hq : q < w.heap.size := World.block_lt_of_cell? w ⟨q, 0, none⟩ h.t0
  have hr : r1 < w.heap.size := World.block_lt_of_cell? w ⟨r1, 0, none⟩ h.a0
  ⟨h.l1, h.l1', h.l2, h.l2', h.lq, hb.cellv h.t0, hb.cellv h.t1, fun j => (hb.frz ⟨q, j, none⟩ hq).trans (h.tf j), hb.cellv h.a0, hb.cellv h.a1, fun j => (hb.frz ⟨r1, j, none⟩ hr).trans (h.af j), hb.cellv h.b0, hb.cellv h.b1, h.row.keep hb, h.nq, h.fq, h.wrow.keep hb, h.wq, h.dis, h.b.trans hb⟩
theorem PE.push {A2 : Option Addr} {c2 : Nat} {v : Ev} {F : Option Addr} {m d : Nat} (h : PE w0 w lo r1 r2 q ck A n c es ts Aw nw cw ws) (hF : Row w lo 3 1 icell F m d v.fs)
    (f0 : ∀ x y, F = some x → A = some y → x.block ≠ y.block) (f1 : ∀ j, j < n → ∀ x y, F = some x → (entAt ts j).A = some y → x.block ≠ y.block) (f2 : ∀ x, F = some x → x.block ≠ q)
    (hr : Row w' lo 49 3 Ent.cells A2 (n + 1) c2 (ts ++ [⟨v, F, m, d⟩])) (hg : w.grownBy w' (Value.ownBlock (.slice A n c))) (hmv : ∃ x, A2 = some x ∧ (w.heap.size ≤ x.block ∨ ∃ y, A = some y ∧ x.block = y.block)) :
    PE w0 (w'.setCell ⟨q, 1, none⟩ (.slice A2 (n + 1) c2)) lo r1 r2 q ck A2 (n + 1) c2 (es ++ [v]) (ts ++ [⟨v, F, m, d⟩]) Aw nw cw ws ∧ w'.cell? ⟨q, 1, none⟩ = some (.slice A n c) ∧ ∀ j, w'.frozen? ⟨q, j, none⟩ = false := by
  have hq : q < w.heap.size := World.block_lt_of_cell? w ⟨q, 0, none⟩ h.t0
  have hr1 : r1 < w.heap.size := World.block_lt_of_cell? w ⟨r1, 0, none⟩ h.a0
  have hl := h.row.tlen
  have e1 := h.l1'
  have e2 := h.l2'
  have e3 := h.lq
  have e4 := h.l1
  have nA := own_neq (n := n) (c := c) h.nq
  have nR1 : some r1 ≠ Value.ownBlock (.slice A n c) := own_neq (fun x hx => by have := (h.row.row.lt x hx).1; omega)
  have nR2 : some r2 ≠ Value.ownBlock (.slice A n c) := own_neq (fun x hx => by have := (h.row.row.lt x hx).1; omega)
  have t0 := hg.cell h.t0 nA
  have t1 := hg.cell h.t1 nA
  have tf : ∀ j, w'.frozen? ⟨q, j, none⟩ = false := fun j => (hg.frozen_far ⟨q, j, none⟩ hq nA).trans (h.tf j)
  have a0 := hg.cell h.a0 nR1
  have a1 := hg.cell h.a1 nR1
  have af : ∀ j, w'.frozen? ⟨r1, j, none⟩ = false := fun j => (hg.frozen_far ⟨r1, j, none⟩ hr1 nR1).trans (h.af j)
  have b0 := hg.cell h.b0 nR2
  have b1 := hg.cell h.b1 nR2
  have rowP := h.row.push hF f0 f1 hr hg hmv
  have ne2 : ∀ x, A2 = some x → x.block ≠ q := by
    obtain ⟨x0, hx0, hh⟩ := hmv
    intro x hx
    rw [hx0] at hx; injection hx with hx; subst hx
    rcases hh with hh | ⟨y, hy, hh⟩
    · omega
    · rw [hh]; exact h.nq y hy
  have dis2 : ∀ x y, A2 = some x → Aw = some y → x.block ≠ y.block := by
    obtain ⟨x0, hx0, hh⟩ := hmv
    intro x y hx hy
    rw [hx0] at hx; injection hx with hx; subst hx
    rcases hh with hh | ⟨z, hz, hh⟩
    · have := (h.wrow.lt y hy).2; omega
    · rw [hh]; exact h.dis z y hz hy
  have fq2 : ∀ k, k < n + 1 → ∀ x, (entAt (ts ++ [(⟨v, F, m, d⟩ : Ent)]) k).A = some x → x.block ≠ q := by
    intro k hk x hx
    rcases Nat.lt_succ_iff_lt_or_eq.1 hk with hk | rfl
    · rw [entAt_old (by omega)] at hx; exact h.fq k hk x hx
    · rw [← hl, entAt_new] at hx; exact f2 x hx
  have gs := ysetg w' ⟨q, 1, none⟩ (.slice A2 (n + 1) c2)
  have nS1 : some r1 ≠ some q := by simp; omega
  have nS2 : some r2 ≠ some q := by simp; omega
  exact ⟨⟨h.l1, h.l1', h.l2, h.l2', h.lq, (World.cell?_setCell_other _ _ _ _ (by simp)).trans t0, World.cell?_setCell_same _ _ _ t1, fun j => (World.frozen?_setCell _ _ _ _).trans (tf j), gs.cell a0 nS1, gs.cell a1 nS1, fun j => (World.frozen?_setCell _ _ _ _).trans (af j), gs.cell b0 nS2, gs.cell b1 nS2, rowP.grown gs (fun x hx => (ne2 x hx).symm) (fun k hk x hx => (fq2 k hk x hx).symm), ne2, fq2, (h.wrow.grown hg (own_neq2 h.dis)).grown gs (fun x hx he => h.wq x hx (Option.some.inj he).symm), h.wq, dis2, (Bw.ofRow h.b hg (fun x hx => by have := (h.row.row.lt x hx).1; omega)).setCell (by dsimp only; omega) _⟩, t1, tf⟩
/-- What is returned lies elsewhere than the result's box. -/
theorem RowE.off2 (h : RowE w lo A n c es ts) {r : Nat} (hr : r < lo) (u v : Value) : RowE ((w.setCell ⟨r, 0, none⟩ u).setCell ⟨r, 1, none⟩ v) lo A n c es ts :=
  have f1 : ∀ x, A = some x → r ≠ x.block := fun x hx => by have := (h.row.lt x hx).1; omega
  have f2 : ∀ k, k < n → ∀ x, (entAt ts k).A = some x → r ≠ x.block := fun k hk x hx => by have := (h.flt hk hx).1; omega
  (h.grown (ysetg _ ⟨r, 0, none⟩ _) f1 f2).grown (ysetg _ ⟨r, 1, none⟩ _) f1 f2
end
end Go.Proofs.YtajfmfeegiicaaaDoor
