
/- The cursor again: what its methods leave, with a bound on the bytes that were read; literals of numbers. -/
import Derived.Test.YthciecmofgoebaaGreatDoorCU1
namespace Go.Proofs.YthciecmofgoebaaGreatDoor
open Go.RowKit
/-- A cursor in block b that has read at most m bytes. -/
def CurE (b : Nat) (A : Option Addr) (n c m : Nat) (w : World) : Prop := ∃ a, a ≤ m ∧ Cur b A n c a w
section
variable {b : Nat} {A : Option Addr} {n c m m' : Nat} {w w' : World}
theorem CurE.keep (h : CurE b A n c m w) (hb : Bw w w') : CurE b A n c m w' := h.elim fun a ⟨h1, h2⟩ => ⟨a, h1, h2.keep hb⟩
theorem CurE.mono (h : CurE b A n c m w) (hm : m ≤ m') : CurE b A n c m' w := h.elim fun a ⟨h1, h2⟩ => ⟨a, by omega, h2⟩
theorem CurE.lt (h : CurE b A n c m w) : b < w.heap.size := h.elim fun _ ⟨_, h2⟩ => h2.lt
theorem CurE.code (h : CurE b A n c m w) : Code8 w A n := h.elim fun _ ⟨_, h2⟩ => h2.rd
theorem CurE.ne (h : CurE b A n c m w) : ∀ x, A = some x → 0 < n → b ≠ x.block := h.elim fun _ ⟨_, h2⟩ => h2.ne
theorem Code8.lt (h : Code8 w A n) : ∀ x, A = some x → 0 < n → x.block < w.heap.size := fun x hx hn => by
  obtain ⟨q, off, hA, hq, _⟩ := h.at_ hn
  rw [hx] at hA
  simp only [Option.some.injEq] at hA
  subst hA
  exact hq
/-- The cursor's block and the code's block are not touched. -/
theorem CurE.grown (h : CurE b A n c m w) {row : Option Nat} (hg : w.grownBy w' row) (h1 : ∀ d, row = some d → d ≠ b) (h2 : ∀ d, row = some d → ∀ x, A = some x → 0 < n → d ≠ x.block) : CurE b A n c m w' := by
  obtain ⟨a, ha, hc⟩ := h
  have hlt := hc.lt
  have hnb : ∀ k, some (⟨b, k, none⟩ : Addr).block ≠ row := fun k he => h1 b he.symm rfl
  refine ⟨a, ha, hg.cell hc.c0 (hnb 0), hg.cell hc.c1 (hnb 1), hc.c2.elim fun sd hs => ⟨sd, hg.cell hs (hnb 2)⟩, fun j => (hg.frozen_far ⟨b, j, none⟩ hlt (hnb j)).trans (hc.ff j), ?_, hc.ne⟩
  obtain ⟨xs, hx⟩ := hc.rd
  refine ⟨xs, hx.len, fun hn => ?_⟩
  obtain ⟨g, off, hA, hgl, hcc⟩ := hx.at_ hn
  exact ⟨g, off, hA, Nat.lt_of_lt_of_le hgl hg.size, fun k j cs u e1 e2 => (hg.cell_far ⟨g, off + k * 1 + j, none⟩ hgl (fun he => h2 g he.symm _ hA hn rfl)).trans (hcc k j cs u e1 e2)⟩
theorem CurE.row {g : Option Addr} {k d lo : Nat} (h : CurE b A n c m w) (hg : w.grownBy w' (Value.ownBlock (.slice g k d))) (hlo : ∀ x, g = some x → lo ≤ x.block) (h1 : b < lo) (h2 : ∀ x, A = some x → 0 < n → x.block < lo) : CurE b A n c m w' :=
  h.grown hg (fun d hd => by
    cases g with
    | none => simp [Value.ownBlock] at hd
    | some x => simp only [Value.ownBlock, Option.some.injEq] at hd; subst hd; have := hlo x rfl; omega) (fun d hd x hx hn => by
    cases g with
    | none => simp [Value.ownBlock] at hd
    | some y => simp only [Value.ownBlock, Option.some.injEq] at hd; subst hd; have := hlo y rfl; have := h2 x hx hn; omega)
end
theorem Bw.gr {a b : World} (h : Bw a b) (row : Option Nat) : a.grownBy b row := h.toGrown.weaken
/-- A growth of a row made since is no growth of what was. -/
theorem gr_row {a b c : World} {row : Option Nat} {g : Option Addr} {k d lo : Nat} (h : a.grownBy b row) (hg : b.grownBy c (Value.ownBlock (.slice g k d))) (hlo : ∀ x, g = some x → lo ≤ x.block) (h1 : a.heap.size ≤ lo) : a.grownBy c row :=
  h.andThen hg (fun j hj => .inl (by
    cases g with
    | none => simp [Value.ownBlock] at hj
    | some x => simp only [Value.ownBlock, Option.some.injEq] at hj; subst hj; have := hlo x rfl; omega))
/-- A slice header reads as numbers. -/
def IntsAt (w : World) (B : Option Addr) (k : Nat) : Prop := ∃ xs : List Int, Rd w B k 1 (xs.map icell)
def isI64 : Value → Bool
  | .int .i64 _ => true
  | _ => false
theorem IntsAt.lit (w : World) (cs : Array Value) (t : TypeId) {k : Nat} (hk : k ≤ cs.size) (hi : cs.toList.all isI64 = true) : IntsAt (w.alloc (.cells cs t)) (some ⟨w.heap.size, 0, none⟩) k := by
  refine ⟨(cs.toList.take k).map intOf, by simp; omega, fun _ => ⟨_, _, rfl, by simp, fun i j l u hi' hj => ?_⟩⟩
  simp only [List.map_map, List.getElem?_map, Option.map_eq_some_iff] at hi'
  obtain ⟨v, hv, rfl⟩ := hi'
  have hik : i < k := by have := (List.getElem?_eq_some_iff.1 hv).1; simp at this; omega
  rw [List.getElem?_take_of_lt hik] at hv
  have hall := List.all_eq_true.1 hi v (List.mem_of_getElem? hv)
  match j with
  | 0 =>
    simp [icell] at hj
    subst hj
    have := cell_of_row (w.alloc (.cells cs t)) w.heap.size i cs t (0, 0) (heap_alloc_new w _)
    simp only [Nat.zero_add, Nat.mul_one, Nat.add_zero] at *
    rw [this]
    have hv' : cs[i]? = some v := by simpa using hv
    rw [hv']
    cases v with
    | int kd x => cases kd <;> simp [isI64] at hall; rfl
    | _ => simp [isI64] at hall
  | j + 1 => simp [icell] at hj
theorem IntsAt.take {w : World} {B : Option Addr} {k k' : Nat} (h : IntsAt w B k) (hk : k' ≤ k) : IntsAt w B k' := by
  obtain ⟨xs, hx⟩ := h
  have hl := hx.ilen
  refine ⟨xs.take k', by simp; omega, fun hn => ?_⟩
  obtain ⟨b, off, hA, hb, hc⟩ := hx.at_ (by omega)
  refine ⟨b, off, hA, hb, fun i j cs u hi hj => hc i j cs u ?_ hj⟩
  simp only [List.getElem?_map, Option.map_eq_some_iff] at hi ⊢
  obtain ⟨v, hv, rfl⟩ := hi
  have hik : i < k' := by have := (List.getElem?_eq_some_iff.1 hv).1; simp at this; omega
  rw [List.getElem?_take_of_lt hik] at hv
  exact ⟨v, hv, rfl⟩
theorem IntsAt.keep {w w' : World} {B : Option Addr} {k : Nat} (h : IntsAt w B k) (hb : Bw w w') : IntsAt w' B k := h.elim fun xs hx => ⟨xs, hx.keep hb⟩
theorem IntsAt.grown {w w' : World} {B : Option Addr} {k : Nat} {b : Nat} (h : IntsAt w B k) (hg : w.grownBy w' (some b)) (hne : ∀ x, B = some x → b ≠ x.block) : IntsAt w' B k := h.elim fun xs hx => ⟨xs, hx.grown hg (fun x hx he => hne x hx (Option.some.inj he))⟩
section
variable (b : Nat) (A : Option Addr) (n c m : Nat)
theorem c_pickE (k : Int) (k0 : 1 ≤ k) (k1 : k ≤ 200) (hm : m ≤ 900000) (hn : n ≤ 1000000) (w : World) (h : CurE b A n c m w) :
    Calls Tryz.prog 47 #[.pointer (some ⟨b, 0, none⟩), .int .i64 k] w fun e w' => (∃ x : Nat, e = .returned (.int .i64 x) ∧ (x : Int) < k) ∧ CurE b A n c (m + 1) w' ∧ w.grownBy w' (some b) := by
  obtain ⟨a, ha, hc⟩ := h
  refine (c_pick b A n c a k k0 k1 (by omega) hn w hc).mono ?_
  rintro e w' ⟨⟨x, rfl, x0, x1⟩, ⟨a2, h2, h3⟩, hg⟩
  obtain ⟨j, rfl⟩ := Int.eq_ofNat_of_zero_le x0
  exact ⟨⟨j, rfl, x1⟩, ⟨a2, by omega, h2⟩, hg⟩
theorem c_oneE (k : Int) (k0 : 1 ≤ k) (k1 : k ≤ 200) (hm : m ≤ 900000) (hn : n ≤ 1000000) (w : World) (h : CurE b A n c m w) :
    Calls Tryz.prog 29 #[.pointer (some ⟨b, 0, none⟩), .int .i64 k] w fun e w' => (∃ x : Bool, e = .returned (.bool x)) ∧ CurE b A n c (m + 1) w' ∧ w.grownBy w' (some b) := by
  obtain ⟨a, ha, hc⟩ := h
  refine (c_one b A n c a k k0 k1 (by omega) hn w hc).mono ?_
  rintro e w' ⟨hx, ⟨a2, h2, h3⟩, hg⟩
  exact ⟨hx, ⟨a2, by omega, h2⟩, hg⟩
theorem c_amongE (B : Option Addr) (k d : Nat) (hk0 : 0 < k) (hk1 : k ≤ 200) (hm : m ≤ 900000) (hn : n ≤ 1000000) (w : World) (h : CurE b A n c m w) (hx : IntsAt w B k) (hne : ∀ x, B = some x → b ≠ x.block) :
    Calls Tryz.prog 55 #[.pointer (some ⟨b, 0, none⟩), .slice B k d] w fun e w' => (∃ x : Int, e = .returned (.int .i64 x)) ∧ CurE b A n c (m + 1) w' ∧ w.grownBy w' (some b) := by
  obtain ⟨a, ha, hc⟩ := h
  obtain ⟨xs, hx⟩ := hx
  refine (c_among b A n c a B k d xs hk0 hk1 (by omega) hn w hc hx hne).mono ?_
  rintro e w' ⟨⟨x, rfl, _⟩, ⟨a2, h2, h3⟩, hg⟩
  exact ⟨⟨x, rfl⟩, ⟨a2, by omega, h2⟩, hg⟩
/-- among at a literal that lies in the newest block. -/
theorem c_amongL (cs : Array Value) (t : TypeId) (k d : Nat) (hk0 : 0 < k) (hk1 : k ≤ 200) (hk : k ≤ cs.size) (hi : cs.toList.all isI64 = true) (hm : m ≤ 900000) (hn : n ≤ 1000000) (w : World) (h : CurE b A n c m w) (B : Nat) (hB : w.heap.size = B) :
    Calls Tryz.prog 55 #[.pointer (some ⟨b, 0, none⟩), .slice (some ⟨B, 0, none⟩) k d] (w.alloc (.cells cs t)) fun e w' => (∃ x : Int, e = .returned (.int .i64 x)) ∧ CurE b A n c (m + 1) w' ∧ w.grownBy w' (some b) := by
  subst hB
  exact (c_amongE b A n c m _ k d hk0 hk1 hm hn _ (h.keep ((Bw.refl w).alloc _)) (IntsAt.lit w cs t hk hi) (fun x hx => by have := h.lt; simp only [Option.some.injEq] at hx; subst hx; dsimp only; omega)).mono
    fun _ _ ⟨h1, h2, h3⟩ => ⟨h1, h2, (((Bw.refl w).alloc _).gr _).trans h3⟩
end
theorem gr_set {a b : World} {row : Option Nat} (h : a.grownBy b row) {p : Addr} (hp : a.heap.size ≤ p.block) (u : Value) : a.grownBy (b.setCell p u) row :=
  h.andThen (cu_setCell b p u) (fun j hj => .inl (by simp only [Option.some.injEq] at hj; omega))
theorem gr_alloc {a b : World} {row : Option Nat} (h : a.grownBy b row) (o : Obj) : a.grownBy (b.alloc o) row := h.trans (((Bw.refl b).alloc o).gr row)
theorem CurE.set {b : Nat} {A : Option Addr} {n c m lo : Nat} {w : World} (h : CurE b A n c m w) {p : Addr} (hp : lo ≤ p.block) (h1 : b < lo) (h2 : ∀ x, A = some x → 0 < n → x.block < lo) (u : Value) : CurE b A n c m (w.setCell p u) :=
  h.grown (cu_setCell w p u) (fun d hd => by simp only [Option.some.injEq] at hd; omega) (fun d hd x hx hn => by simp only [Option.some.injEq] at hd; have := h2 x hx hn; omega)
/-- A box of the call's own. -/
structure Box (w : World) (k : Nat) (vs : List Value) : Prop where
  cell : ∀ (j : Nat) (v : Value), vs[j]? = some v → w.cell? ⟨k, j, none⟩ = some v
  fz : ∀ j, w.frozen? ⟨k, j, none⟩ = false
  lt : k < w.heap.size
theorem Box.mk' (w : World) (cs : Array Value) (t : TypeId) : Box (w.alloc (.cells cs t)) w.heap.size cs.toList := by
  refine ⟨fun j v hv => ?_, fun j => by go_simp, by simp⟩
  have : (w.alloc (.cells cs t)).cell? ⟨w.heap.size, j, none⟩ = cs[j]? := cell_of_row (w.alloc (.cells cs t)) w.heap.size j cs t (0, 0) (heap_alloc_new w _)
  rw [this]
  simpa using hv
theorem Box.grown {w w' : World} {k : Nat} {vs : List Value} (h : Box w k vs) {row : Option Nat} (hg : w.grownBy w' row) (hne : row ≠ some k) : Box w' k vs :=
  ⟨fun j v hv => hg.cell (h.cell j v hv) (fun e => hne e.symm), fun j => (hg.frozen_far ⟨k, j, none⟩ h.lt (fun e => hne e.symm)).trans (h.fz j), Nat.lt_of_lt_of_le h.lt hg.size⟩
theorem Box.keep {w w' : World} {k : Nat} {vs : List Value} (h : Box w k vs) (hb : Bw w w') : Box w' k vs := h.grown hb.toGrown (by simp)
theorem Box.gcur {w w' : World} {k b : Nat} {vs : List Value} (h : Box w k vs) (hg : w.grownBy w' (some b)) (hne : b ≠ k) : Box w' k vs := h.grown hg (by simpa using hne)
theorem Box.c3 {w : World} {k : Nat} {x y z : Value} (h : Box w k [x, y, z]) : w.cell? ⟨k, 0, none⟩ = some x ∧ w.cell? ⟨k, 1, none⟩ = some y ∧ w.cell? ⟨k, 2, none⟩ = some z := ⟨h.cell 0 _ rfl, h.cell 1 _ rfl, h.cell 2 _ rfl⟩
theorem Box.c1 {w : World} {k : Nat} {x : Value} (h : Box w k [x]) : w.cell? ⟨k, 0, none⟩ = some x := h.cell 0 _ rfl
/-- A new cursor. -/
theorem CurE.new (w : World) (A : Option Addr) (n c : Nat) (t : TypeId) (h : Code8 w A n) : CurE w.heap.size A n c 0 (w.alloc (.cells #[.slice A n c, .int .i64 0, .int .u64 0] t)) := by
  have hb := Box.mk' w #[.slice A n c, .int .i64 0, .int .u64 0] t
  have ⟨c0, c1, c2⟩ := hb.c3
  refine ⟨0, Nat.le_refl _, c0, c1, ⟨0, c2⟩, hb.fz, h.keep ((Bw.refl w).alloc _), fun x hx hn => ?_⟩
  have := h.lt x hx hn
  omega
theorem Bw.cur {a b c : World} (h : Bw a b) {k : Nat} (hg : b.grownBy c (some k)) (hk : a.heap.size ≤ k) : Bw a c := h.grown hg (fun j hj => by simp only [Option.some.injEq] at hj; omega)
end Go.Proofs.YthciecmofgoebaaGreatDoor
