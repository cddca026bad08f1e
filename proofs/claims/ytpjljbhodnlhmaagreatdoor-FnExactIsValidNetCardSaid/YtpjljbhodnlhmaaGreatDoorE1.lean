
/- Entries: a number, faces, an until; lists of them; the law's own helpers. -/
import Derived.Test.YtpjljbhodnlhmaaGreatDoorI2
import Derived.Test.YtpjljbhodnlhmaaGreatDoorK14
import Derived.Test.YtpjljbhodnlhmaaGreatDoorR1
namespace Go.Proofs.YtpjljbhodnlhmaaGreatDoor
open Go.RowKit Go.ChangeShapes Go.WideShapes Go.ChangeAt Go.Joins Go.Deep
/-- What an entry says. -/
structure Ev where
  num : Int
  unt : Int
  fs : List Int
/-- An entry in memory. -/
structure Ent where
  v : Ev
  A : Option Addr
  n : Nat
  c : Nat
def Ent.cells (e : Ent) : List Value := [.int .i64 e.v.num, .slice e.A e.n e.c, .int .i64 e.v.unt]
def ev0 : Ev := ⟨0, 0, []⟩
def ent0 : Ent := ⟨ev0, none, 0, 0⟩
def evAt (es : List Ev) (k : Nat) : Ev := es.getD k ev0
def entAt (ts : List Ent) (k : Nat) : Ent := ts.getD k ent0
theorem evAt_lt {es : List Ev} {k : Nat} (h : k < es.length) : evAt es k = es[k] := by simp [evAt, h]
theorem entAt_lt {es : List Ent} {k : Nat} (h : k < es.length) : entAt es k = es[k] := by simp [entAt, h]
/-- The slice's header reads as entries, their faces too. -/
structure RdE (w : World) (A : Option Addr) (n : Nat) (es : List Ev) (ts : List Ent) : Prop where
  rd : Rd w A n 3 (ts.map Ent.cells)
  vs : ts.map (·.v) = es
  fs : ∀ k, k < n → Rd w (entAt ts k).A (entAt ts k).n 1 ((entAt ts k).v.fs.map icell) ∧ (entAt ts k).n ≤ maxLen
section
variable {w w' : World} {A : Option Addr} {n c lo : Nat} {es : List Ev} {ts : List Ent}
theorem RdE.tlen (h : RdE w A n es ts) : ts.length = n := by simpa using h.rd.len
theorem RdE.len (h : RdE w A n es ts) : es.length = n := by rw [← h.vs]; simpa using h.tlen
theorem RdE.v (h : RdE w A n es ts) {k : Nat} (hk : k < n) : (entAt ts k).v = evAt es k := by
  have h1 := h.tlen
  have h2 := h.vs
  subst h2
  rw [entAt_lt (by omega), evAt_lt (by simp; omega)]; simp
theorem RdE.keep (h : RdE w A n es ts) (hb : Bw w w') : RdE w' A n es ts := ⟨h.rd.keep hb, h.vs, fun k hk => ⟨(h.fs k hk).1.keep hb, (h.fs k hk).2⟩⟩
theorem RdE.at_ (h : RdE w A n es ts) (hn : 0 < n) :
    ∃ b off, A = some ⟨b, off, none⟩ ∧ b < w.heap.size ∧ ∀ k, k < n → w.cell? ⟨b, off + k * 3, none⟩ = some (.int .i64 (evAt es k).num) ∧ w.cell? ⟨b, off + k * 3 + 1, none⟩ = some (.slice (entAt ts k).A (entAt ts k).n (entAt ts k).c) ∧ w.cell? ⟨b, off + k * 3 + 2, none⟩ = some (.int .i64 (evAt es k).unt) := by
  obtain ⟨b, off, hA, hb, hc⟩ := h.rd.at_ hn
  refine ⟨b, off, hA, hb, fun k hk => ?_⟩
  have hl := h.tlen
  have hk' : k < ts.length := by omega
  have hx : (ts.map Ent.cells)[k]? = some (entAt ts k).cells := by simp [entAt, hk']
  have hv := h.v hk
  rw [← hv]
  exact ⟨by simpa using hc k 0 _ _ hx rfl, hc k 1 _ _ hx rfl, hc k 2 _ _ hx rfl⟩
theorem RdE.ints (h : RdE w A n es ts) {k : Nat} (hk : k < n) : Rd w (entAt ts k).A (entAt ts k).n 1 ((evAt es k).fs.map icell) := by
  rw [← h.v hk]; exact (h.fs k hk).1
/-- A row of entries of the call's own; each entry's faces are of its own. -/
structure RowE (w : World) (lo : Nat) (A : Option Addr) (n c : Nat) (es : List Ev) (ts : List Ent) : Prop where
  row : Row w lo 146 3 Ent.cells A n c ts
  vs : ts.map (·.v) = es
  fs : ∀ k, k < n → Row w lo 3 1 icell (entAt ts k).A (entAt ts k).n (entAt ts k).c (entAt ts k).v.fs
  ne0 : ∀ k, k < n → ∀ x y, (entAt ts k).A = some x → A = some y → x.block ≠ y.block
  ne : ∀ j k, j < n → k < n → j ≠ k → ∀ x y, (entAt ts j).A = some x → (entAt ts k).A = some y → x.block ≠ y.block
theorem RowE.tlen (h : RowE w lo A n c es ts) : ts.length = n := h.row.len
theorem RowE.rd (h : RowE w lo A n c es ts) : RdE w A n es ts :=
  ⟨h.row.rd (fun _ => rfl), h.vs, fun k hk => ⟨(h.fs k hk).rd (fun _ => rfl), Nat.le_trans (h.fs k hk).caps.1 (h.fs k hk).caps.2⟩⟩
theorem RowE.keep (h : RowE w lo A n c es ts) (hb : Bw w w') : RowE w' lo A n c es ts := ⟨h.row.keep hb, h.vs, fun k hk => (h.fs k hk).keep hb, h.ne0, h.ne⟩
theorem RowE.mono {lo' : Nat} (h : RowE w lo A n c es ts) (hl : lo' ≤ lo) : RowE w lo' A n c es ts := ⟨h.row.mono hl, h.vs, fun k hk => (h.fs k hk).mono hl, h.ne0, h.ne⟩
theorem RowE.grown (h : RowE w lo A n c es ts) {b : Nat} (hg : w.grownBy w' (some b)) (h1 : ∀ x, A = some x → b ≠ x.block) (h2 : ∀ k, k < n → ∀ x, (entAt ts k).A = some x → b ≠ x.block) : RowE w' lo A n c es ts :=
  ⟨h.row.grown hg (fun x hx he => h1 x hx (Option.some.inj he)), h.vs, fun k hk => (h.fs k hk).grown hg (fun x hx he => h2 k hk x hx (Option.some.inj he)), h.ne0, h.ne⟩
theorem entAt_set (ts : List Ent) (k j : Nat) (t : Ent) (hk : k < ts.length) : entAt (ts.set k t) j = if j = k then t else entAt ts j := by
  unfold entAt
  rw [List.getD_eq_getElem?_getD, List.getElem?_set]
  by_cases h : j = k
  · subst h; simp [hk]
  · simp [h, show ¬ k = j from fun e => h e.symm, List.getD_eq_getElem?_getD]
/-- An element is stored whole, with faces in new memory. -/
theorem RowE.set3 {g : Nat} {k : Nat} {v : Ev} {B : Option Addr} {m d : Nat} (h : RowE w lo (some ⟨g, 0, none⟩) n c es ts) (hk : k < n) (hB : Row w lo 3 1 icell B m d v.fs) (hn0 : ∀ x, B = some x → x.block ≠ g) (hn1 : ∀ j, j < n → ∀ x y, B = some x → (entAt ts j).A = some y → x.block ≠ y.block) :
    RowE (((w.setCell ⟨g, k * 3, none⟩ (.int .i64 v.num)).setCell ⟨g, k * 3 + 1, none⟩ (.slice B m d)).setCell ⟨g, k * 3 + 2, none⟩ (.int .i64 v.unt)) lo (some ⟨g, 0, none⟩) n c (es.set k v) (ts.set k ⟨v, B, m, d⟩) ∧ w.grownBy (((w.setCell ⟨g, k * 3, none⟩ (.int .i64 v.num)).setCell ⟨g, k * 3 + 1, none⟩ (.slice B m d)).setCell ⟨g, k * 3 + 2, none⟩ (.int .i64 v.unt)) (some g) := by
  have hl := h.tlen
  have hs := h.row.set3 (t := ⟨v, B, m, d⟩) (fun _ => rfl) hk rfl
  have hv := h.vs
  refine ⟨⟨hs.1, by rw [List.map_set, hv], fun j hj => ?_, fun j hj x y hx hy => ?_, fun i j hi hj hij x y hx hy => ?_⟩, hs.2⟩
  · rw [entAt_set _ _ _ _ (by omega)]
    split
    · exact hB.grown hs.2 (fun x hx he => hn0 x hx (Option.some.inj he).symm)
    · exact (h.fs j hj).grown hs.2 (fun x hx he => h.ne0 j hj x _ hx rfl (Option.some.inj he).symm)
  · simp only [Option.some.injEq] at hy; subst hy
    rw [entAt_set _ _ _ _ (by omega)] at hx
    split at hx
    · exact hn0 x hx
    · exact h.ne0 j hj x _ hx rfl
  · rw [entAt_set _ _ _ _ (by omega)] at hx hy
    split at hx
    · split at hy
      · omega
      · exact hn1 j hj x y hx hy
    · split at hy
      · exact (hn1 i hi y x hy hx).symm
      · exact h.ne i j hi hj hij x y hx hy
end
theorem trod_threeL {H : Type} {enc : TypeId × Value → H} {P : Program} {w : World} {t : TypeId} {f0 f1 f2 : Field} {n : Nat} {cs : List Value} {x : DataW H × List MemPlace} {base : Nat} {spare : Nat → Bool} {held : Bool} (ht : P.underlying t = some (.struct #[f0, f1, f2])) (hone : oneCellFields P #[f0, f1, f2] = true) (hC : P.cellsOf t = 3) (h : DataW.trod enc P w base spare held n t cs = some x) :
    ∃ (a b c : Value) (y0 y1 y2 : DataW H × List MemPlace) (m : Nat), cs = [a, b, c] ∧ DataW.trod enc P w base spare held m f0.type [a] = some y0 ∧ DataW.trod enc P w base spare held m f1.type [b] = some y1 ∧ DataW.trod enc P w base spare held m f2.type [c] = some y2 := by
  obtain ⟨xs, m, _, _, hl, hxl, hf⟩ := DataW.trod_struct ht h
  rw [hC] at hl
  obtain ⟨o0, k0⟩ := hone_of hone 0 f0 rfl
  obtain ⟨o1, k1⟩ := hone_of hone 1 f1 rfl
  obtain ⟨o2, k2⟩ := hone_of hone 2 f2 rfl
  have g0 := hf 0 f0 rfl
  have g1 := hf 1 f1 rfl
  have g2 := hf 2 f2 rfl
  match cs, hl, xs, hxl with
  | [a, b, c], _, [y0, y1, y2], _ => exact ⟨a, b, c, y0, y1, y2, m, rfl, by simpa [o0, k0] using g0, by simpa [o1, k1] using g1, by simpa [o2, k2] using g2⟩
theorem trod_ent {H : Type} {enc : TypeId × Value → H} {w : World} {n : Nat} {cs : List Value} {x : DataW H × List MemPlace} (h : DataW.trod enc Tryz.prog w 0 (fun _ => true) true n 182 cs = some x) :
    ∃ t : { e : Ent // Rd w e.A e.n 1 (e.v.fs.map icell) ∧ e.n ≤ maxLen }, cs = t.1.cells := by
  obtain ⟨a, b, c, y0, y1, y2, m, rfl, h0, h1, h2⟩ := trod_threeL Tryz.underlying182 (by kernel_rfl) (by kernel_rfl) h
  obtain ⟨v, hv, _⟩ := DataW.trod_int Tryz.underlying3 h0
  obtain ⟨u, hu, _⟩ := DataW.trod_int Tryz.underlying3 h2
  obtain ⟨A, k, d, fs, rfl, g1, g2, g3⟩ := trod_rd (sz := 1) icell Tryz.underlying22 (by kernel_rfl) (by omega) (fun n cs x hx => trod_icell Tryz.underlying3 hx) h1
  simp only [List.cons.injEq, and_true] at hv hu
  subst hv hu
  exact ⟨⟨⟨⟨v, u, fs⟩, A, k, d⟩, g3, Nat.le_trans g1 g2⟩, rfl⟩
set_option maxRecDepth 100000 in
theorem open_element {H : Type} {enc : TypeId × Value → H} {w : World} {v : Value} {d : DataW H} {p : List MemPlace} (hv : Value.okWide Tryz.prog w .any 0 110 v) (h : DataW.Trod enc Tryz.prog w 0 (fun _ => true) true 110 v d p) :
    ∃ (t : Int) (A : Option Addr) (n c : Nat) (es : List Ev) (ts : List Ent), v = .agg #[.int .i64 t, .slice A n c] ∧ n ≤ c ∧ c ≤ maxLen ∧ RdE w A n es ts := by
  obtain ⟨c0, c1, y0, y1, m, rfl, _, _, hy0, hy1⟩ := open_agg2 Tryz.underlying110 (by kernel_rfl) (by kernel_rfl) hv h
  obtain ⟨t, ht, _⟩ := DataW.trod_int Tryz.underlying3 hy0
  obtain ⟨A, n, c, ts, rfl, h1, h2, h3⟩ := trod_rd (sz := 3) (T := { e : Ent // Rd w e.A e.n 1 (e.v.fs.map icell) ∧ e.n ≤ maxLen }) (fun t => t.1.cells) Tryz.underlying108 (by kernel_rfl) (by omega) (fun n cs x hx => trod_ent hx) hy1
  simp only [List.cons.injEq, and_true] at ht
  subst ht
  have hl : ts.length = n := by simpa using h3.len
  refine ⟨t, A, n, c, _, ts.map (·.1), rfl, h1, h2, ⟨by simpa [List.map_map, Function.comp_def] using h3, rfl, fun k hk => ?_⟩⟩
  rw [entAt_lt (by simp; omega)]
  simp only [List.getElem_map]
  exact (ts[k]'(by omega)).2
end Go.Proofs.YtpjljbhodnlhmaaGreatDoor
