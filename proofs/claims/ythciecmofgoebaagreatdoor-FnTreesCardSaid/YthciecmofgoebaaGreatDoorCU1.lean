
/- The cursor of the drawn inputs: next, pick, one, among. Contracts say bounds, no more. -/
import Derived.Test.YthciecmofgoebaaGreatDoorI
import Derived.Test.YthciecmofgoebaaGreatDoorK0
import Derived.Deep.RegionHeld3
namespace Go.Proofs.YthciecmofgoebaaGreatDoor
open Go.RowKit
def bcell (x : { x : Int // 0 ≤ x ∧ x ≤ 255 }) : List Value := [.int .u8 x.1]
/-- The code reads as bytes. -/
def Code8 (w : World) (A : Option Addr) (n : Nat) : Prop := ∃ xs : List { x : Int // 0 ≤ x ∧ x ≤ 255 }, Rd w A n 1 (xs.map bcell)
theorem Code8.keep {w w' : World} {A : Option Addr} {n : Nat} (h : Code8 w A n) (hb : Bw w w') : Code8 w' A n := h.elim fun xs hx => ⟨xs, hx.keep hb⟩
theorem Code8.at_ {w : World} {A : Option Addr} {n : Nat} (h : Code8 w A n) (hn : 0 < n) : ∃ b off, A = some ⟨b, off, none⟩ ∧ b < w.heap.size ∧ ∀ k, k < n → ∃ x : Int, w.cell? ⟨b, off + k, none⟩ = some (.int .u8 x) ∧ 0 ≤ x ∧ x ≤ 255 := by
  obtain ⟨xs, hx⟩ := h
  obtain ⟨b, off, hA, hb, hc⟩ := hx.at_ hn
  refine ⟨b, off, hA, hb, fun k hk => ?_⟩
  have hl : xs.length = n := by simpa using hx.len
  have hk' : k < xs.length := by omega
  have hg : (xs.map bcell)[k]? = some (bcell xs[k]) := by simp [hk']
  exact ⟨xs[k].1, by simpa using hc k 0 _ _ hg rfl, xs[k].2⟩
structure Cur (b : Nat) (A : Option Addr) (n c : Nat) (at_ : Nat) (W : World) : Prop where
  c0 : W.cell? ⟨b, 0, none⟩ = some (.slice A n c)
  c1 : W.cell? ⟨b, 1, none⟩ = some (.int .i64 at_)
  c2 : ∃ sd : Int, W.cell? ⟨b, 2, none⟩ = some (.int .u64 sd)
  ff : ∀ j, W.frozen? ⟨b, j, none⟩ = false
  rd : Code8 W A n
  ne : ∀ x, A = some x → 0 < n → b ≠ x.block
theorem cu_setCell (w : World) (a : Addr) (u : Value) : w.grownBy (w.setCell a u) (some a.block) :=
  ⟨rfl, rfl, rfl, by simp, fun k _ hk => heap_setCell_other w a k u (fun e => hk (by rw [e]))⟩
theorem Code8.grown {w w' : World} {A : Option Addr} {n b : Nat} (h : Code8 w A n) (hg : w.grownBy w' (some b)) (hne : ∀ x, A = some x → 0 < n → b ≠ x.block) : Code8 w' A n := by
  obtain ⟨xs, hx⟩ := h
  refine ⟨xs, ?_⟩
  rcases Nat.eq_zero_or_pos n with h0 | h0
  · exact ⟨hx.len, fun hn => absurd hn (by omega)⟩
  · exact hx.grown hg (fun x hA he => hne x hA h0 (Option.some.inj he))
section
variable {b : Nat} {A : Option Addr} {n c at_ : Nat} {W W' : World}
theorem Cur.keep (h : Cur b A n c at_ W) (hb : Bw W W') : Cur b A n c at_ W' :=
  ⟨hb.cellv h.c0, hb.cellv h.c1, h.c2.elim fun sd hs => ⟨sd, hb.cellv hs⟩, fun j => (hb.frz ⟨b, j, none⟩ (show b < W.heap.size from World.block_lt_of_cell? W ⟨b, 0, none⟩ h.c0)).trans (h.ff j), h.rd.keep hb, h.ne⟩
theorem Cur.grown (h : Cur b A n c at_ W) {d : Nat} (hg : W.grownBy W' (some d)) (h1 : b ≠ d) (h2 : ∀ x, A = some x → 0 < n → d ≠ x.block) (hf : ∀ j, W'.frozen? ⟨b, j, none⟩ = false) : Cur b A n c at_ W' :=
  ⟨hg.cell h.c0 (by simpa using h1), hg.cell h.c1 (by simpa using h1), h.c2.elim fun sd hs => ⟨sd, hg.cell hs (by simpa using h1)⟩, hf, h.rd.grown hg h2, h.ne⟩
theorem Cur.lt (h : Cur b A n c at_ W) : b < W.heap.size := World.block_lt_of_cell? W ⟨b, 0, none⟩ h.c0
theorem Cur.step (h : Cur b A n c at_ W) (sd2 : Int) : Cur b A n c (at_ + 1) ((W.setCell ⟨b, 1, none⟩ (.int .i64 ((at_ : Int) + 1))).setCell ⟨b, 2, none⟩ (.int .u64 sd2)) ∧ W.grownBy ((W.setCell ⟨b, 1, none⟩ (.int .i64 ((at_ : Int) + 1))).setCell ⟨b, 2, none⟩ (.int .u64 sd2)) (some b) := by
  have ⟨c0, c1, ⟨sd, c2⟩, ff, rd, ne⟩ := h
  have hg : W.grownBy ((W.setCell ⟨b, 1, none⟩ (.int .i64 ((at_ : Int) + 1))).setCell ⟨b, 2, none⟩ (.int .u64 sd2)) (some b) := (cu_setCell W ⟨b, 1, none⟩ _).trans (cu_setCell _ ⟨b, 2, none⟩ _)
  refine ⟨⟨?_, ?_, ⟨sd2, ?_⟩, fun j => ?_, rd.grown hg ne, ne⟩, hg⟩
  all_goals simp [go_sem, *]
end
theorem and255 (x : Int) : 0 ≤ wrap64 (bits BinOp.and IntKind.u64 x 255) ∧ wrap64 (bits BinOp.and IntKind.u64 x 255) ≤ 255 := by
  have h : bits BinOp.and IntKind.u64 x 255 = IntKind.u64.wrap (((BitVec.ofInt 64 x &&& BitVec.ofInt 64 255).toNat : Nat) : Int) := rfl
  have h1 : (BitVec.ofInt 64 x &&& BitVec.ofInt 64 255).toNat ≤ 255 := by
    rw [BitVec.toNat_and]
    exact Nat.le_trans Nat.and_le_right (by decide)
  rw [h]
  generalize (BitVec.ofInt 64 x &&& BitVec.ofInt 64 255).toNat = k at *
  rw [IntKind.wrap_u64]
  unfold wrap64
  omega
set_option maxRecDepth 100000 in
theorem c_next (b : Nat) (A : Option Addr) (n c at_ : Nat) (hat : at_ ≤ 1000000) (hn : n ≤ 1000000) (w : World) (h : Cur b A n c at_ w) :
    Calls Tryz.prog 64 #[.pointer (some ⟨b, 0, none⟩)] w fun e w' => (∃ x : Int, e = .returned (.int .i64 x) ∧ 0 ≤ x ∧ x ≤ 255) ∧ Cur b A n c (at_ + 1) w' ∧ w.grownBy w' (some b) := by
  have ⟨c0, c1, ⟨sd, c2⟩, ff, rd, ne⟩ := h
  have hb := World.block_lt_of_cell? w _ c0
  by_cases hlt : at_ < n
  · obtain ⟨q, off, rfl, hq, hc⟩ := rd.at_ (by omega)
    obtain ⟨x, hx, x0, x1⟩ := hc at_ hlt
    have hne := ne _ rfl (by omega)
    have hwx : IntKind.i64.wrap x = x := by simp [IntKind.wrap, IntKind.bits, IntKind.signed]; omega
    clear hc
    go_enter Tryz.func64, Tryz.ntmps64
    go_wp2
    go_region_held3 (fun W => W.cell? ⟨b, 0, none⟩ = some (.slice (some ⟨q, off, none⟩) n c) ∧ W.cell? ⟨b, 1, none⟩ = some (.int .i64 at_)) (exact ⟨c0, c1⟩) (fail)
    go_wp2
    go_region_held3 (fun W => W.cell? ⟨b, 0, none⟩ = some (.slice (some ⟨q, off, none⟩) n c) ∧ W.cell? ⟨b, 1, none⟩ = some (.int .i64 at_) ∧ W.cell? ⟨q, off + at_, none⟩ = some (.int .u8 x)) (exact ⟨c0, c1, hx⟩) (fail)
    go_wp2
    generalize IntKind.u64.wrap (IntKind.u64.wrap (IntKind.u64.wrap (sd * 6364136223846793005) + x) + 840840) = sd2
    have ⟨hcur, hg⟩ := h.step sd2
    generalize (w.setCell ⟨b, 1, none⟩ (.int .i64 (at_ + 1))).setCell ⟨b, 2, none⟩ (.int .u64 sd2) = W2 at *
    go_region_held3 (fun W => W.cell? ⟨b, 0, none⟩ = some (.slice (some ⟨q, off, none⟩) n c) ∧ W.cell? ⟨b, 1, none⟩ = some (.int .i64 (at_ + 1))) (exact ⟨hcur.c0, hcur.c1⟩) (fail)
    go_wp2
    go_ret
    have hd := (((Bw.refl W2).drew).drew).drew
    exact ⟨⟨_, rfl, x0, x1⟩, hcur.keep hd, hg.trans hd.toGrown.weaken⟩
  · go_enter Tryz.func64, Tryz.ntmps64
    go_wp2
    go_region_held3 (fun W => W.cell? ⟨b, 0, none⟩ = some (.slice A n c) ∧ W.cell? ⟨b, 1, none⟩ = some (.int .i64 at_)) (exact ⟨c0, c1⟩) (fail)
    go_wp2
    generalize IntKind.u64.wrap (IntKind.u64.wrap (IntKind.u64.wrap (sd * 6364136223846793005)) + 840840) = sd2
    have ⟨hcur, hg⟩ := h.step sd2
    generalize (w.setCell ⟨b, 1, none⟩ (.int .i64 (at_ + 1))).setCell ⟨b, 2, none⟩ (.int .u64 sd2) = W2 at *
    obtain ⟨sd3, e2⟩ := hcur.c2
    go_region_held3 (fun W => W.cell? ⟨b, 0, none⟩ = some (.slice A n c) ∧ W.cell? ⟨b, 1, none⟩ = some (.int .i64 (at_ + 1))) (exact ⟨hcur.c0, hcur.c1⟩) (fail)
    go_wp2
    go_ret
    have hd := ((Bw.refl W2).drew).drew
    exact ⟨⟨_, rfl, (and255 _).1, (and255 _).2⟩, hcur.keep hd, hg.trans hd.toGrown.weaken⟩
set_option maxRecDepth 100000 in
theorem c_pick (b : Nat) (A : Option Addr) (n c at_ : Nat) (k : Int) (k0 : 1 ≤ k) (k1 : k ≤ 200) (hat : at_ ≤ 1000000) (hn : n ≤ 1000000) (w : World) (h : Cur b A n c at_ w) :
    Calls Tryz.prog 47 #[.pointer (some ⟨b, 0, none⟩), .int .i64 k] w fun e w' => (∃ x : Int, e = .returned (.int .i64 x) ∧ 0 ≤ x ∧ x < k) ∧ (∃ at2, Cur b A n c at2 w' ∧ at2 ≤ at_ + 1) ∧ w.grownBy w' (some b) := by
  by_cases hk : k ≤ 1
  · go_enter Tryz.func47, Tryz.ntmps47
    go_wp2
    go_ret
    exact ⟨⟨_, rfl, by omega, by omega⟩, ⟨at_, h, by omega⟩, World.grownBy.refl _ _⟩
  · go_enter Tryz.func47, Tryz.ntmps47
    go_wp2_with fail
    refine (c_next b A n c at_ hat hn _ h).mono ?_
    rintro e w1 ⟨⟨x, rfl, x0, x1⟩, hcur, hg⟩
    have hm : x.tmod k = x % k := Int.tmod_eq_emod_of_nonneg x0
    have hr0 := Int.emod_nonneg x (show k ≠ 0 by omega)
    have hr1 := Int.emod_lt_of_pos x (show 0 < k by omega)
    have hk0 : ¬ k = 0 := by omega
    go_wp2
    go_ret
    exact ⟨⟨_, rfl, by omega, by omega⟩, ⟨_, hcur, Nat.le_refl _⟩, hg⟩
theorem c_one (b : Nat) (A : Option Addr) (n c at_ : Nat) (k : Int) (k0 : 1 ≤ k) (k1 : k ≤ 200) (hat : at_ ≤ 1000000) (hn : n ≤ 1000000) (w : World) (h : Cur b A n c at_ w) :
    Calls Tryz.prog 29 #[.pointer (some ⟨b, 0, none⟩), .int .i64 k] w fun e w' => (∃ x : Bool, e = .returned (.bool x)) ∧ (∃ at2, Cur b A n c at2 w' ∧ at2 ≤ at_ + 1) ∧ w.grownBy w' (some b) := by
  go_enter Tryz.func29, Tryz.ntmps29
  go_wp2_with fail
  refine (c_pick b A n c at_ k k0 k1 hat hn _ h).mono ?_
  rintro e w1 ⟨⟨x, rfl, x0, x1⟩, hcur, hg⟩
  go_wp2
  go_ret
  exact ⟨⟨_, rfl⟩, hcur, hg⟩
set_option maxRecDepth 100000 in
theorem c_among (b : Nat) (A : Option Addr) (n c at_ : Nat) (B : Option Addr) (m d : Nat) (xs : List Int) (hm0 : 0 < m) (hm1 : m ≤ 200) (hat : at_ ≤ 1000000) (hn : n ≤ 1000000) (w : World) (h : Cur b A n c at_ w) (hx : Rd w B m 1 (xs.map icell)) (hne : ∀ x, B = some x → b ≠ x.block) :
    Calls Tryz.prog 55 #[.pointer (some ⟨b, 0, none⟩), .slice B m d] w fun e w' => (∃ x : Int, e = .returned (.int .i64 x) ∧ x ∈ xs) ∧ (∃ at2, Cur b A n c at2 w' ∧ at2 ≤ at_ + 1) ∧ w.grownBy w' (some b) := by
  have hl := Lib.hid hx.ilen
  go_enter Tryz.func55, Tryz.ntmps55
  go_wp2_with fail
  refine (c_pick b A n c at_ m (by omega) (by omega) hat hn _ h).mono ?_
  rintro e w1 ⟨⟨x, rfl, x0, x1⟩, hcur, hg⟩
  obtain ⟨k, rfl⟩ := Int.eq_ofNat_of_zero_le x0
  have hk : k < m := by omega
  have hx1 : Rd w1 B m 1 (xs.map icell) := hx.grown hg (fun y hy he => hne y hy (Option.some.inj he))
  obtain ⟨q, off, rfl, hq, hc⟩ := hx1.ints hm0
  have h0 := hc k hk
  have hmem : intAt xs k ∈ xs := by rw [intAt_lt (by rw [hl.out]; exact hk)]; exact List.getElem_mem _
  clear hc
  go_wp2
  go_ret
  exact ⟨⟨_, rfl, hmem⟩, hcur, hg⟩
end Go.Proofs.YthciecmofgoebaaGreatDoor
