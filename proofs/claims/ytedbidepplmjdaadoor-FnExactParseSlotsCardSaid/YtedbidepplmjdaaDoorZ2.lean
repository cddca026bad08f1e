
/- Reading a receive window: what both sides answer; the window while it is read. -/
import Derived.Test.YtedbidepplmjdaaDoorZ1
import Derived.Shelf.Strings.Cut
namespace Go.Proofs.YtedbidepplmjdaaDoor
open Go.RowKit Go.Shelf
open Classical in
noncomputable def psB (s : ByteArray) : Bool := decide (∃ u ts, CanS s u ts)
open Classical in
noncomputable def psU (s : ByteArray) : Int := if h : ∃ u ts, CanS s u ts then (h.choose : Int) else 0
open Classical in
noncomputable def psT (s : ByteArray) : List Slot := if h : ∃ u ts, CanS s u ts then h.choose_spec.choose else []
theorem CanS.uniq {s : ByteArray} {u u' : Nat} {ts ts' : List Slot} (h : CanS s u ts) (h' : CanS s u' ts') : u = u' ∧ ts = ts' := by
  have e1 := h.words.symm.trans h'.words
  have e2 := h.first.2.symm.trans h'.first.2
  simp only [List.cons.injEq] at e1
  refine ⟨?_, by rw [← h.slotsOf, e1.2, h'.slotsOf]⟩
  have := h.num.uniq (by rw [e2]; exact h'.num)
  omega
theorem ps_yes {s : ByteArray} {u : Nat} {ts : List Slot} (h : CanS s u ts) : psB s = true ∧ psU s = u ∧ psT s = ts := by
  have he : ∃ u ts, CanS s u ts := ⟨u, ts, h⟩
  refine ⟨by simp [psB, he], ?_, ?_⟩
  · rw [psU, dif_pos he]
    obtain ⟨ts', hc⟩ := he.choose_spec
    rw [(hc.uniq h).1]
  · rw [psT, dif_pos he]
    exact (he.choose_spec.choose_spec.uniq h).2
theorem ps_no {s : ByteArray} (h : ∀ u ts, ¬ CanS s u ts) : psB s = false ∧ psU s = 0 ∧ psT s = [] := by
  have he : ¬ ∃ u ts, CanS s u ts := fun ⟨u, ts, hc⟩ => h u ts hc
  exact ⟨by simp [psB, h], by rw [psU, dif_neg he], by rw [psT, dif_neg he]⟩
theorem psT_fit (s : ByteArray) : (psT s).length ≤ 8 ∧ ∀ k, k < (psT s).length → (slotAt (psT s) k).item.size ≤ 8 := by
  by_cases he : ∃ u ts, CanS s u ts
  · obtain ⟨u, ts, h⟩ := he
    rw [(ps_yes h).2.2]
    refine ⟨(rwB_iff.1 h.1).2.1, fun k hk => ?_⟩
    rw [slotAt_lt hk]
    exact (slot_facts (h.slots _ (List.getElem_mem hk))).2.1
  · rw [(ps_no fun u ts hc => he ⟨u, ts, hc⟩).2.2]
    exact ⟨by simp, fun k hk => absurd hk (by simp)⟩
/-- What the program reads. -/
noncomputable def iN (s : ByteArray) : Int := rdV (cutA s)
def iT (s : ByteArray) : List Slot := ((splB 32 (cutR s)).drop 1).map slotOf
/-- What the reference reads. -/
def sW (s : ByteArray) : ByteArray := (strAt (splB 32 s) 0).extract 0 ((strAt (splB 32 s) 0).size - 1)
noncomputable def sN (s : ByteArray) : Int := rdV (sW s)
def sT (s : ByteArray) : List Slot := ((splB 32 s).drop 1).map slotOf
theorem CanS.impl {s : ByteArray} {u : Nat} {ts : List Slot} (h : CanS s u ts) : rdB (cutA s) = true ∧ iN s = u ∧ iT s = ts := by
  have hc := h.cut
  have hn := rd_yes (s := cutA s) (v := u) (by rw [hc.1]; exact h.num)
  exact ⟨hn.1, hn.2, by rw [iT, hc.2]; exact h.slotsOf⟩
theorem CanS.spec {s : ByteArray} {u : Nat} {ts : List Slot} (h : CanS s u ts) : rdB (sW s) = true ∧ sN s = u ∧ sT s = ts := by
  have hn := rd_yes (s := sW s) (v := u) (by rw [sW, h.first.2]; exact h.num)
  exact ⟨hn.1, hn.2, by rw [sT, h.words]; exact h.slotsOf⟩
theorem can_of {s : ByteArray} {n : Int} {ts : List Slot} (hr : rwB n ts = true) (he : slotsT n.toNat ts = s) : CanS s n.toNat ts := by
  have := inR_iff.1 (rwB_iff.1 hr).1
  exact ⟨by rw [show ((n.toNat : Nat) : Int) = n by omega]; exact hr, he⟩
def lays145_ren : Go.Shelf.Ren := ⟨fun | 145 => 23 | 220 => 40 | 219 => 48 | 217 => 62 | 225 => 63 | 224 => 64 | 267 => 65 | 266 => 81 | 314 => 82 | n => n, fun | 9 => 9 | 4 => 4 | 59 => 49 | 3 => 3 | 5 => 5 | 46 => 84 | 146 => 103 | 51 => 102 | n => n, fun | 1 => 0 | n => n⟩
theorem lays145 : Go.Proofs.Lays.n145 Tryd.prog lays145_ren where
  mixed := by kernel_rfl
  f145 := Tryd.func23.trans (congrArg some (by kernel_rfl))
  f217 := Tryd.func62.trans (congrArg some (by kernel_rfl))
  f219 := Tryd.func48.trans (congrArg some (by kernel_rfl))
  f220 := Tryd.func40.trans (congrArg some (by kernel_rfl))
  f224 := Tryd.func64.trans (congrArg some (by kernel_rfl))
  f225 := Tryd.func63.trans (congrArg some (by kernel_rfl))
  f266 := Tryd.func81.trans (congrArg some (by kernel_rfl))
  f267 := Tryd.func65.trans (congrArg some (by kernel_rfl))
  f314 := Tryd.func82.trans (congrArg some (by kernel_rfl))
  t3 := Tryd.underlying3
  a3 := Tryd.isAgg3
  z3 := Tryd.sizeOf3
  v3 := Tryd.zeroValue3
  t4 := Tryd.underlying4
  a4 := Tryd.isAgg4
  z4 := Tryd.sizeOf4
  v4 := Tryd.zeroValue4
  t5 := Tryd.underlying5
  a5 := Tryd.isAgg5
  z5 := Tryd.sizeOf5
  v5 := Tryd.zeroValue5
  t9 := Tryd.underlying9
  a9 := Tryd.isAgg9
  z9 := Tryd.sizeOf9
  v9 := Tryd.zeroValue9
  t46 := Tryd.underlying84
  a46 := Tryd.isAgg84
  z46 := Tryd.sizeOf84
  v46 := Tryd.zeroValue84
  t51 := Tryd.underlying102
  a51 := Tryd.isAgg102
  z51 := Tryd.sizeOf102
  v51 := Tryd.zeroValue102
  t59 := Tryd.underlying49
  a59 := Tryd.isAgg49
  z59 := Tryd.sizeOf49
  v59 := Tryd.zeroValue49
  t146 := Tryd.underlying103
  a146 := Tryd.isAgg103
  z146 := Tryd.sizeOf103
  v146 := Tryd.zeroValue103
  g1 := by kernel_rfl
theorem c_Cut (s : ByteArray) (hs : s.size ≤ 1048576) (w : World) (hp : PEnv w) :
    Calls Tryd.prog 23 #[.string s, .string ⟨#[58]⟩] w fun e w' => (∃ b, e = .returned (.tuple #[.string (cutA s), .string (cutR s), .bool b])) ∧ Bw w w' := by
  obtain ⟨m, hm⟩ := hp.m
  refine (Any.strings_Cut lays145 s ⟨#[58]⟩ m w (by omega) hm).mono ?_
  rintro e w' ⟨rfl, n, rfl⟩
  exact ⟨⟨_, rfl⟩, (Bw.refl w).drewN n⟩
theorem infoSlotZ : (Tryd.prog.info? 48).map (fun i => (i.zero, i.size, i.bytes)) = some (some (.agg #[.bool false, .string ByteArray.empty]), 2, 24) := by kernel_rfl
theorem oneSlot : ∀ (t : Slot) (u : Value), u ∈ t.cells → u.oneCell' = true := by
  intro t u hu; simp [Slot.cells] at hu; rcases hu with rfl | rfl <;> rfl
theorem append_slot {w0 : World} {lo : Nat} {ops : Array Oper} {rest : List Oper} {o : Oper} {a : Act} {Q : Exit → Act → World → Prop} (hgd : o.guard = none) (s x : Operand)
    (ho : o.op = .call { callee := .builtin .append, args := #[s, x], argTypes := #[28, 28] }) (A : Option Addr) (n c : Nat) (xs : List Slot) (hs : a.eval s = .slice A n c) (hown : Row w0 lo 48 2 Slot.cells A n c xs) (hv : Bool) (it : ByteArray)
    (B : Nat) (hx : a.eval x = .slice (some ⟨B, 0, none⟩) 1 1) (hB : w0.heap.size = B) (hn : n < 2000000) (hlo : lo ≤ w0.heap.size)
    (h : ∀ A2 c2 w', Row w' lo 48 2 Slot.cells A2 (n + 1) c2 (xs ++ [⟨hv, it⟩]) → w0.grownBy w' (Value.ownBlock (.slice A n c)) → (∃ x, A2 = some x ∧ (w0.heap.size < x.block ∨ ∃ y, A = some y ∧ x.block = y.block)) → wpList Tryd.prog ops Q rest (a.put o.dst (.slice A2 (n + 1) c2)) w') : wpList Tryd.prog ops Q (o :: rest) a (w0.alloc (.cells #[.bool hv, .string it] 48)) := by
  subst hB
  obtain ⟨i0, hi, hz0, hz1, hz2⟩ := info_parts infoSlotZ
  refine wpList_append_rd (enc := Slot.cells) hgd s x 28 ho lo 48 i0 (.agg #[.bool false, .string ByteArray.empty]) 2 24 Tryd.underlying28 hi hz0 hz1 hz2 rfl (by decide) (fun _ => rfl) oneSlot A n c xs hs (hown.keep (Bw.alloc (Bw.refl _) _)) _ 1 1 [⟨hv, it⟩] hx (Rd.one _ _ _ _ 2 rfl) (by unfold maxLen; omega) (by omega) (by simp; omega) ?_
  intro A2 c2 w' h1 h2 h3 h4
  refine h A2 c2 w' h1 ((World.grownBy_alloc w0 _ _).trans h2) ?_
  rcases h3 with h3 | ⟨x, hx, h5 | h5⟩
  · cases hA : A2 with
    | none => exact absurd hA (h4 (by omega))
    | some x => exact ⟨x, rfl, .inr ⟨x, by rw [← h3]; exact hA, rfl⟩⟩
  · exact ⟨x, hx, .inl (by rw [h5]; simp)⟩
  · exact ⟨x, hx, .inr h5⟩
theorem own_neS {A : Option Addr} {m c b : Nat} (h : ∀ x, A = some x → x.block ≠ b) : some b ≠ Value.ownBlock (.slice A m c) := fun he => by
  cases A with
  | none => simp [Value.ownBlock] at he
  | some y => have := h y rfl; simp only [Value.ownBlock, Option.some.injEq] at he; omega
theorem gset (w : World) (a : Addr) (u : Value) : w.grownBy (w.setCell a u) (some a.block) :=
  ⟨rfl, rfl, rfl, by simp, fun k _ hk => heap_setCell_other w a k u (fun e => hk (by rw [e]))⟩
/-- The words and the slots while a side reads. -/
structure PS (w wr : World) (T : Nat) (nv : Int) (A1 : Option Addr) (n1 c1 : Nat) (ws : List ByteArray) (A : Option Addr) (m c : Nat) (L : List Slot) : Prop where
  lt : w.heap.size < T
  t0 : wr.cell? ⟨T, 0, none⟩ = some (.int .i64 nv)
  t1 : wr.cell? ⟨T, 1, none⟩ = some (.slice A m c)
  tf : ∀ j, wr.frozen? ⟨T, j, none⟩ = false
  r0 : wr.cell? ⟨w.heap.size, 0, none⟩ = some (.int .i64 0)
  r1 : wr.cell? ⟨w.heap.size, 1, none⟩ = some (.slice none 0 0)
  rf : ∀ j, wr.frozen? ⟨w.heap.size, j, none⟩ = false
  row : Row wr (w.heap.size + 1) 48 2 Slot.cells A m c L
  nT : ∀ x, A = some x → x.block ≠ T
  wrow : Row wr (w.heap.size + 1) 9 1 scell A1 n1 c1 ws
  wT : ∀ x, A1 = some x → x.block ≠ T
  dis : ∀ x y, A = some x → A1 = some y → x.block ≠ y.block
  b : Bw w wr
section
variable {w wr w2 : World} {T n1 c1 m c : Nat} {nv : Int} {A1 A : Option Addr} {ws : List ByteArray} {L : List Slot}
theorem PS.keep (h : PS w wr T nv A1 n1 c1 ws A m c L) (hb : Bw wr w2) : PS w w2 T nv A1 n1 c1 ws A m c L :=
  ⟨h.lt, hb.cellv h.t0, hb.cellv h.t1, fun j => (hb.frz ⟨T, j, none⟩ (World.block_lt_of_cell? wr ⟨T, 1, none⟩ h.t1)).trans (h.tf j), hb.cellv h.r0, hb.cellv h.r1, fun j => (hb.frz ⟨w.heap.size, j, none⟩ (World.block_lt_of_cell? wr ⟨w.heap.size, 1, none⟩ h.r1)).trans (h.rf j), h.row.keep hb, h.nT, h.wrow.keep hb, h.wT, h.dis, h.b.trans hb⟩
theorem PS.push {y : Slot} {A2 : Option Addr} {c2 : Nat} (h : PS w wr T nv A1 n1 c1 ws A m c L) (hrow : Row w2 (w.heap.size + 1) 48 2 Slot.cells A2 (m + 1) c2 (L ++ [y])) (hg : wr.grownBy w2 (Value.ownBlock (.slice A m c))) (hmv : ∃ x, A2 = some x ∧ (wr.heap.size < x.block ∨ ∃ y, A = some y ∧ x.block = y.block)) :
    PS w (w2.setCell ⟨T, 1, none⟩ (.slice A2 (m + 1) c2)) T nv A1 n1 c1 ws A2 (m + 1) c2 (L ++ [y]) ∧ w2.cell? ⟨T, 1, none⟩ = some (.slice A m c) ∧ ∀ j, w2.frozen? ⟨T, j, none⟩ = false := by
  have hT : T < wr.heap.size := World.block_lt_of_cell? wr ⟨T, 1, none⟩ h.t1
  have hlt := h.lt
  have t0 : w2.cell? ⟨T, 0, none⟩ = some (.int .i64 nv) := hg.cell h.t0 (own_neS h.nT)
  have t2 : w2.cell? ⟨T, 1, none⟩ = some (.slice A m c) := hg.cell h.t1 (own_neS h.nT)
  have f2 : ∀ j, w2.frozen? ⟨T, j, none⟩ = false := fun j => (hg.frozen_far ⟨T, j, none⟩ hT (own_neS h.nT)).trans (h.tf j)
  have hrn : ∀ x, A = some x → x.block ≠ w.heap.size := fun x hx => by have := (h.row.lt x hx).1; omega
  have hW : w.heap.size < wr.heap.size := by omega
  have r0 : w2.cell? ⟨w.heap.size, 0, none⟩ = some (.int .i64 0) := hg.cell h.r0 (own_neS hrn)
  have r1 : w2.cell? ⟨w.heap.size, 1, none⟩ = some (.slice none 0 0) := hg.cell h.r1 (own_neS hrn)
  have rf2 : ∀ j, w2.frozen? ⟨w.heap.size, j, none⟩ = false := fun j => (hg.frozen_far ⟨w.heap.size, j, none⟩ hW (own_neS hrn)).trans (h.rf j)
  have nT2 : ∀ x, A2 = some x → x.block ≠ T := by
    obtain ⟨x0, hx0, hh⟩ := hmv
    intro x hx
    rw [hx0] at hx; injection hx with hx; subst hx
    rcases hh with hh | ⟨y, hy, hh⟩
    · omega
    · rw [hh]; exact h.nT y hy
  have dis2 : ∀ x y, A2 = some x → A1 = some y → x.block ≠ y.block := by
    obtain ⟨x0, hx0, hh⟩ := hmv
    intro x y hx hy
    rw [hx0] at hx; injection hx with hx; subst hx
    rcases hh with hh | ⟨z, hz, hh⟩
    · have := (h.wrow.lt y hy).2; omega
    · rw [hh]; exact h.dis z y hz hy
  have gs := gset w2 ⟨T, 1, none⟩ (.slice A2 (m + 1) c2)
  have w2row : Row w2 (w.heap.size + 1) 9 1 scell A1 n1 c1 ws := h.wrow.grown hg (fun x hx he => by
    cases A with
    | none => simp [Value.ownBlock] at he
    | some z => simp only [Value.ownBlock, Option.some.injEq] at he; exact h.dis z x rfl hx he)
  have hb2 : Bw w w2 := Bw.ofRow h.b hg (fun x hx => by have := (h.row.lt x hx).1; omega)
  have neW : some w.heap.size ≠ some T := fun e => by have := Option.some.inj e; omega
  exact ⟨⟨h.lt, (World.cell?_setCell_other _ _ _ _ (by simp)).trans t0, World.cell?_setCell_same _ _ _ t2, fun j => (World.frozen?_setCell _ _ _ _).trans (f2 j), gs.cell r0 neW, gs.cell r1 neW, fun j => (World.frozen?_setCell _ _ _ _).trans (rf2 j), hrow.grown gs (fun x hx he => nT2 x hx (Option.some.inj he).symm), nT2, w2row.grown gs (fun x hx he => h.wT x hx (Option.some.inj he).symm), h.wT, dis2, hb2.setCell (by dsimp only; omega) _⟩, t2, f2⟩
end
end Go.Proofs.YtedbidepplmjdaaDoor
