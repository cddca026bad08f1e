
/- What the drawn region of NewNet has made, in whatever order: plain. -/
import Derived.Test.YtpjljbhodnlhmaaGreatDoorK22
import Derived.Test.YtpjljbhodnlhmaaGreatDoorIC
import Derived.Test.YtpjljbhodnlhmaaGreatDoorK7
namespace Go.Proofs.YtpjljbhodnlhmaaGreatDoor
open Go.RowKit
def eE (k : Int) : List Value := [.int .i64 k, .slice none 0 0]
def eR (x : Bool × Int × Int) : List Value := [.bool x.1, .int .i64 x.2.1, .int .i64 x.2.2, .slice none 0 0, .slice none 0 0]
def eQ (_ : Unit) : List Value := [.slice none 0 0]
theorem infoE : (Tryz.prog.info? 89).map (fun i => (i.zero, i.size, i.bytes)) = some (some (.agg #[.int .i64 0, .slice none 0 0]), 2, 32) := by kernel_rfl
theorem mkE (n : Nat) (hn : n ≤ 1048576) (W : World) : (Instr.makeSlice 33 (.int .i64 (n : Int)) (.int .i64 (n : Int))).run Tryz.prog W = .ok (.slice (some ⟨W.heap.size, 0, none⟩) n n) (W.alloc (.cells (madeCells #[.int .i64 0, .slice none 0 0] (n * 2)) 89)) := by
  obtain ⟨i0, hi, hz0, hz1, hz2⟩ := info_parts infoE
  have := run_make (P := Tryz.prog) W 33 89 i0 _ Tryz.underlying33 hi hz0 .i64 .i64 n n (by omega) (by omega) (by rw [hz2]; omega) (by omega)
  rw [hz1] at this
  exact this
theorem rowE (n : Nat) (hn : n ≤ 1048576) (W : World) {lo : Nat} (hlo : lo ≤ W.heap.size) : Row (W.alloc (.cells (madeCells #[.int .i64 0, .slice none 0 0] (n * 2)) 89)) lo 89 2 eE (some ⟨W.heap.size, 0, none⟩) n n (List.replicate n 0) := by
  refine Row.mono ⟨?_, by simp⟩ hlo
  have := World.ownsRow_lit (base := W.heap.size) (e := 89) (size := 2) W (madeCells #[.int .i64 0, .slice none 0 0] (n * 2)) n (Nat.le_refl _) (by unfold maxLen; omega) (size_madeCells _ _)
  have e1 := madeCells_flat #[.int .i64 0, .slice none 0 0] (by simp) n
  have e2 : (#[.int .i64 0, .slice none 0 0] : Array Value).size = 2 := rfl
  rw [e2] at e1
  rw [e1] at this
  rw [List.flatMap_replicate]
  exact this
theorem infoR : (Tryz.prog.info? 96).map (fun i => (i.zero, i.size, i.bytes)) = some (some (.agg #[.bool false, .int .i64 0, .int .i64 0, .slice none 0 0, .slice none 0 0]), 5, 72) := by kernel_rfl
theorem mkR (n : Nat) (hn : n ≤ 1048576) (W : World) : (Instr.makeSlice 34 (.int .i64 (n : Int)) (.int .i64 (n : Int))).run Tryz.prog W = .ok (.slice (some ⟨W.heap.size, 0, none⟩) n n) (W.alloc (.cells (madeCells #[.bool false, .int .i64 0, .int .i64 0, .slice none 0 0, .slice none 0 0] (n * 5)) 96)) := by
  obtain ⟨i0, hi, hz0, hz1, hz2⟩ := info_parts infoR
  have := run_make (P := Tryz.prog) W 34 96 i0 _ Tryz.underlying34 hi hz0 .i64 .i64 n n (by omega) (by omega) (by rw [hz2]; omega) (by omega)
  rw [hz1] at this
  exact this
theorem rowR (n : Nat) (hn : n ≤ 1048576) (W : World) {lo : Nat} (hlo : lo ≤ W.heap.size) : Row (W.alloc (.cells (madeCells #[.bool false, .int .i64 0, .int .i64 0, .slice none 0 0, .slice none 0 0] (n * 5)) 96)) lo 96 5 eR (some ⟨W.heap.size, 0, none⟩) n n (List.replicate n (false, 0, 0)) := by
  refine Row.mono ⟨?_, by simp⟩ hlo
  have := World.ownsRow_lit (base := W.heap.size) (e := 96) (size := 5) W (madeCells #[.bool false, .int .i64 0, .int .i64 0, .slice none 0 0, .slice none 0 0] (n * 5)) n (Nat.le_refl _) (by unfold maxLen; omega) (size_madeCells _ _)
  have e1 := madeCells_flat #[.bool false, .int .i64 0, .int .i64 0, .slice none 0 0, .slice none 0 0] (by simp) n
  have e2 : (#[.bool false, .int .i64 0, .int .i64 0, .slice none 0 0, .slice none 0 0] : Array Value).size = 5 := rfl
  rw [e2] at e1
  rw [e1] at this
  rw [List.flatMap_replicate]
  exact this
theorem infoQ : (Tryz.prog.info? 98).map (fun i => (i.zero, i.size, i.bytes)) = some (some (.slice none 0 0), 1, 24) := by kernel_rfl
theorem mkQ (n : Nat) (hn : n ≤ 1048576) (W : World) : (Instr.makeSlice 35 (.int .i64 (n : Int)) (.int .i64 (n : Int))).run Tryz.prog W = .ok (.slice (some ⟨W.heap.size, 0, none⟩) n n) (W.alloc (.cells (madeCells #[.slice none 0 0] (n * 1)) 98)) := by
  obtain ⟨i0, hi, hz0, hz1, hz2⟩ := info_parts infoQ
  have := run_make (P := Tryz.prog) W 35 98 i0 _ Tryz.underlying35 hi hz0 .i64 .i64 n n (by omega) (by omega) (by rw [hz2]; omega) (by omega)
  rw [hz1] at this
  exact this
theorem rowQ (n : Nat) (hn : n ≤ 1048576) (W : World) {lo : Nat} (hlo : lo ≤ W.heap.size) : Row (W.alloc (.cells (madeCells #[.slice none 0 0] (n * 1)) 98)) lo 98 1 eQ (some ⟨W.heap.size, 0, none⟩) n n (List.replicate n ()) := by
  refine Row.mono ⟨?_, by simp⟩ hlo
  have := World.ownsRow_lit (base := W.heap.size) (e := 98) (size := 1) W (madeCells #[.slice none 0 0] (n * 1)) n (Nat.le_refl _) (by unfold maxLen; omega) (size_madeCells _ _)
  have e1 := madeCells_flat #[.slice none 0 0] (by simp) n
  have e2 : (#[.slice none 0 0] : Array Value).size = 1 := rfl
  rw [e2] at e1
  rw [e1] at this
  rw [List.flatMap_replicate]
  exact this
def vb : Value → Option Nat
  | .slice (some x) _ _ => some x.block
  | _ => none
def upd (v : Nat → Value) (i : Nat) (u : Value) : Nat → Value := fun j => if j = i then u else v j
theorem upd_same (v : Nat → Value) (i : Nat) (u : Value) : upd v i u i = u := by simp [upd]
theorem upd_ne (v : Nat → Value) {i j : Nat} (u : Value) (h : j ≠ i) : upd v i u j = v j := by simp [upd, h]
def NOk (tb lo n c : Nat) (A : Option Addr) (ps : List Int) (S : Value) (listed : Array Bool) (v : Nat → Value) (W : World) : Nat → Prop
  | 0 => v 0 = .pointer (some ⟨tb, 0, none⟩)
  | 1 => v 1 = .slice A n c
  | 2 => ∃ B d, v 2 = .slice B n d ∧ Row W lo 3 1 icell B n d ps
  | 3 => listed.getD 2 false = true ∧ v 3 = .agg #[v 2]
  | 4 => v 4 = S
  | 5 => v 5 = .int .i64 n
  | 6 => ∃ g, v 6 = .slice (some ⟨g, 0, none⟩) n n ∧ Row W lo 89 2 eE (some ⟨g, 0, none⟩) n n (List.replicate n 0)
  | 7 => v 7 = .int .i64 n
  | 8 => ∃ g, v 8 = .slice (some ⟨g, 0, none⟩) n n ∧ Row W lo 96 5 eR (some ⟨g, 0, none⟩) n n (List.replicate n (false, 0, 0))
  | 9 => v 9 = .int .i64 n
  | 10 => ∃ g, v 10 = .slice (some ⟨g, 0, none⟩) n n ∧ Row W lo 98 1 eQ (some ⟨g, 0, none⟩) n n (List.replicate n ())
  | 11 => v 11 = .int .i64 n
  | 12 => ∃ g, v 12 = .slice (some ⟨g, 0, none⟩) n n ∧ Row W lo 98 1 eQ (some ⟨g, 0, none⟩) n n (List.replicate n ())
  | _ => True
theorem NOk.keep {tb lo n c : Nat} {A : Option Addr} {ps : List Int} {S : Value} {listed : Array Bool} {v : Nat → Value} {W W' : World} {i i0 : Nat} {u : Value} (hne : i ≠ i0) (h0 : listed.getD i0 false = false) (hb : Bw W W')
    (h : NOk tb lo n c A ps S listed v W i) : NOk tb lo n c A ps S (listed.setIfInBounds i0 true) (upd v i0 u) W' i := by
  match i, h, hne with
  | 0, h, hne => exact (upd_ne v u hne).trans h
  | 1, h, hne => exact (upd_ne v u hne).trans h
  | 2, h, hne => obtain ⟨B, d, h1, h2⟩ := h; exact ⟨B, d, (upd_ne v u hne).trans h1, h2.keep hb⟩
  | 3, h, hne =>
    obtain ⟨h1, h2⟩ := h
    have h3 : 2 ≠ i0 := fun e => by rw [← e, h1] at h0; cases h0
    exact ⟨getD_set_true h1, by rw [upd_ne v u hne, upd_ne v u h3]; exact h2⟩
  | 4, h, hne => exact (upd_ne v u hne).trans h
  | 5, h, hne => exact (upd_ne v u hne).trans h
  | 6, h, hne => obtain ⟨g, h1, h2⟩ := h; exact ⟨g, (upd_ne v u hne).trans h1, h2.keep hb⟩
  | 7, h, hne => exact (upd_ne v u hne).trans h
  | 8, h, hne => obtain ⟨g, h1, h2⟩ := h; exact ⟨g, (upd_ne v u hne).trans h1, h2.keep hb⟩
  | 9, h, hne => exact (upd_ne v u hne).trans h
  | 10, h, hne => obtain ⟨g, h1, h2⟩ := h; exact ⟨g, (upd_ne v u hne).trans h1, h2.keep hb⟩
  | 11, h, hne => exact (upd_ne v u hne).trans h
  | 12, h, hne => obtain ⟨g, h1, h2⟩ := h; exact ⟨g, (upd_ne v u hne).trans h1, h2.keep hb⟩
  | k + 13, _, _ => exact trivial
def nrows : List Nat := [2, 6, 8, 10, 12]
structure NI (w : World) (tb lo n c : Nat) (A : Option Addr) (ps : List Int) (S : Value) (listed : Array Bool) (v : Nat → Value) (W : World) : Prop where
  bw : Bw w W
  ok : ∀ i, listed.getD i false = true → NOk tb lo n c A ps S listed v W i
  ap : ∀ i j, i ∈ nrows → j ∈ nrows → i ≠ j → listed.getD i false = true → listed.getD j false = true → ∀ x y, vb (v i) = some x → vb (v j) = some y → x ≠ y
  lt : ∀ i, i ∈ nrows → listed.getD i false = true → ∀ x, vb (v i) = some x → x < W.heap.size
theorem NI.start (w W : World) (tb lo n c : Nat) (A : Option Addr) (ps : List Int) (S : Value) (k : Nat) (v : Nat → Value) (hb : Bw w W) : NI w tb lo n c A ps S (Array.replicate k false) v W :=
  ⟨hb, fun i hi => (by rw [getD_replicate_false] at hi; cases hi), fun i j _ _ _ hi => (by rw [getD_replicate_false] at hi; cases hi), fun i _ hi => (by rw [getD_replicate_false] at hi; cases hi)⟩
theorem NI.step {w : World} {tb lo n c : Nat} {A : Option Addr} {ps : List Int} {S : Value} {listed : Array Bool} {v : Nat → Value} {W W' : World} {i0 : Nat} {u : Value} (h : NI w tb lo n c A ps S listed v W) (h0 : listed.getD i0 false = false) (hb : Bw W W')
    (hu : NOk tb lo n c A ps S (listed.setIfInBounds i0 true) (upd v i0 u) W' i0) (hx : i0 ∈ nrows → ∀ x, vb u = some x → W.heap.size ≤ x ∧ x < W'.heap.size) : NI w tb lo n c A ps S (listed.setIfInBounds i0 true) (upd v i0 u) W' := by
  have hl : ∀ i, i ≠ i0 → (listed.setIfInBounds i0 true).getD i false = true → listed.getD i false = true := fun i hi hh => by rwa [getD_set_ne false (Ne.symm hi)] at hh
  refine ⟨h.bw.trans hb, fun i hi => ?_, fun i j hi hj hij li lj x y hxx hyy => ?_, fun i hi li x hxx => ?_⟩
  · by_cases he : i = i0
    · subst he; exact hu
    · exact (h.ok i (hl i he hi)).keep he h0 hb
  · by_cases he : i = i0
    · subst he
      rw [upd_same] at hxx
      rw [upd_ne v u (Ne.symm hij)] at hyy
      have a1 := (hx hi x hxx).1
      have a2 := h.lt j hj (hl j (Ne.symm hij) lj) y hyy
      omega
    · rw [upd_ne v u he] at hxx
      by_cases hf : j = i0
      · subst hf
        rw [upd_same] at hyy
        have a1 := (hx hj y hyy).1
        have a2 := h.lt i hi (hl i he li) x hxx
        omega
      · rw [upd_ne v u hf] at hyy
        exact h.ap i j hi hj hij (hl i he li) (hl j hf lj) x y hxx hyy
  · by_cases he : i = i0
    · subst he
      rw [upd_same] at hxx
      exact (hx hi x hxx).2
    · rw [upd_ne v u he] at hxx
      have := h.lt i hi (hl i he li) x hxx
      have := hb.size
      omega
/-- The five rows of a network that is new. -/
structure NR (W : World) (lo n : Nat) (ps : List Int) (B : Option Addr) (d g1 g2 g3 g4 : Nat) (es : List Int) (rs : List (Bool × Int × Int)) : Prop where
  r0 : Row W lo 3 1 icell B n d ps
  r1 : Row W lo 89 2 eE (some ⟨g1, 0, none⟩) n n es
  r2 : Row W lo 96 5 eR (some ⟨g2, 0, none⟩) n n rs
  r3 : Row W lo 98 1 eQ (some ⟨g3, 0, none⟩) n n (List.replicate n ())
  r4 : Row W lo 98 1 eQ (some ⟨g4, 0, none⟩) n n (List.replicate n ())
  d0 : ∀ x, B = some x → x.block ≠ g1 ∧ x.block ≠ g2 ∧ x.block ≠ g3 ∧ x.block ≠ g4
  d1 : g1 ≠ g2 ∧ g1 ≠ g3 ∧ g1 ≠ g4
  d2 : g2 ≠ g3 ∧ g2 ≠ g4
  d3 : g3 ≠ g4
section
variable {W W' : World} {lo n : Nat} {ps : List Int} {B : Option Addr} {d g1 g2 g3 g4 : Nat} {es : List Int} {rs : List (Bool × Int × Int)}
theorem NR.keep (h : NR W lo n ps B d g1 g2 g3 g4 es rs) (hb : Bw W W') : NR W' lo n ps B d g1 g2 g3 g4 es rs := ⟨h.r0.keep hb, h.r1.keep hb, h.r2.keep hb, h.r3.keep hb, h.r4.keep hb, h.d0, h.d1, h.d2, h.d3⟩
theorem NR.mono {lo' : Nat} (h : NR W lo n ps B d g1 g2 g3 g4 es rs) (hl : lo' ≤ lo) : NR W lo' n ps B d g1 g2 g3 g4 es rs := ⟨h.r0.mono hl, h.r1.mono hl, h.r2.mono hl, h.r3.mono hl, h.r4.mono hl, h.d0, h.d1, h.d2, h.d3⟩
theorem NR.store (h : NR W lo n ps B d g1 g2 g3 g4 es rs) (p : Addr) (u : Value) (hp : p.block < lo) : NR (W.setCell p u) lo n ps B d g1 g2 g3 g4 es rs := by
  have k : ∀ x : Addr, lo ≤ x.block → some p.block ≠ some x.block := fun x hx he => by simp at he; omega
  have hg : W.grownBy (W.setCell p u) (some p.block) := ⟨rfl, rfl, rfl, (by simp), fun k _ hk => Below.heap_setCell _ _ _ k (fun e => hk (by rw [e]))⟩
  exact ⟨h.r0.grown hg (fun x hx => k x (h.r0.lt x hx).1), h.r1.grown hg (fun x hx => k x (h.r1.lt x hx).1), h.r2.grown hg (fun x hx => k x (h.r2.lt x hx).1), h.r3.grown hg (fun x hx => k x (h.r3.lt x hx).1), h.r4.grown hg (fun x hx => k x (h.r4.lt x hx).1), h.d0, h.d1, h.d2, h.d3⟩
end
/-- When the head is done: the five rows and what the slots hold. -/
theorem NI.done {w W : World} {tb lo n c : Nat} {A : Option Addr} {ps : List Int} {S : Value} {listed : Array Bool} {v : Nat → Value} (h : NI w tb lo n c A ps S listed v W) (hl : ∀ j, j < 13 → listed.getD j false = true) :
    ∃ B d g1 g2 g3 g4, NR W lo n ps B d g1 g2 g3 g4 (List.replicate n 0) (List.replicate n (false, 0, 0)) ∧ v 3 = .agg #[.slice B n d] ∧ v 4 = S ∧ v 6 = .slice (some ⟨g1, 0, none⟩) n n ∧ v 8 = .slice (some ⟨g2, 0, none⟩) n n ∧ v 10 = .slice (some ⟨g3, 0, none⟩) n n ∧ v 12 = .slice (some ⟨g4, 0, none⟩) n n := by
  have l2 := hl 2 (by omega)
  have l6 := hl 6 (by omega)
  have l8 := hl 8 (by omega)
  have l10 := hl 10 (by omega)
  have l12 := hl 12 (by omega)
  obtain ⟨B, d, e2, r0⟩ := h.ok 2 l2
  obtain ⟨_, e3⟩ := h.ok 3 (hl 3 (by omega))
  have e4 := h.ok 4 (hl 4 (by omega))
  obtain ⟨g1, e6, r1⟩ := h.ok 6 l6
  obtain ⟨g2, e8, r2⟩ := h.ok 8 l8
  obtain ⟨g3, e10, r3⟩ := h.ok 10 l10
  obtain ⟨g4, e12, r4⟩ := h.ok 12 l12
  have b : ∀ i g, v i = .slice (some ⟨g, 0, none⟩) n n → vb (v i) = some g := fun i g e => by rw [e]; rfl
  refine ⟨B, d, g1, g2, g3, g4, ⟨r0, r1, r2, r3, r4, ?_, ?_, ?_, ?_⟩, by rw [e3, e2], e4, e6, e8, e10, e12⟩
  · rintro x rfl
    have b2 : vb (v 2) = some x.block := by rw [e2]; rfl
    exact ⟨h.ap 2 6 (by decide) (by decide) (by decide) l2 l6 _ _ b2 (b _ _ e6), h.ap 2 8 (by decide) (by decide) (by decide) l2 l8 _ _ b2 (b _ _ e8), h.ap 2 10 (by decide) (by decide) (by decide) l2 l10 _ _ b2 (b _ _ e10), h.ap 2 12 (by decide) (by decide) (by decide) l2 l12 _ _ b2 (b _ _ e12)⟩
  · exact ⟨h.ap 6 8 (by decide) (by decide) (by decide) l6 l8 _ _ (b _ _ e6) (b _ _ e8), h.ap 6 10 (by decide) (by decide) (by decide) l6 l10 _ _ (b _ _ e6) (b _ _ e10), h.ap 6 12 (by decide) (by decide) (by decide) l6 l12 _ _ (b _ _ e6) (b _ _ e12)⟩
  · exact ⟨h.ap 8 10 (by decide) (by decide) (by decide) l8 l10 _ _ (b _ _ e8) (b _ _ e10), h.ap 8 12 (by decide) (by decide) (by decide) l8 l12 _ _ (b _ _ e8) (b _ _ e12)⟩
  · exact h.ap 10 12 (by decide) (by decide) (by decide) l10 l12 _ _ (b _ _ e10) (b _ _ e12)
end Go.Proofs.YtpjljbhodnlhmaaGreatDoor
