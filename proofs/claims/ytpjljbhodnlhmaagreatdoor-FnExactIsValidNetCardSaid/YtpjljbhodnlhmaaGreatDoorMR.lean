/- Slots: a bool and a text; lists of them; the law's own helpers, Receive windows: the law's own helpers, Receive windows: the two tests of one, Receive windows: valid ones, Receive windows: highest seen, waiting, have, Receive windows: waiting slots, items that are there. -/
import Derived.Test.YtpjljbhodnlhmaaGreatDoorS2
import Derived.Test.YtpjljbhodnlhmaaGreatDoorS3
import Derived.Deep.RegionHeld3

namespace Go.Proofs.YtpjljbhodnlhmaaGreatDoor
open Go.RowKit Go.ChangeShapes Go.WideShapes Go.ChangeAt Go.Joins Go.Deep
structure Slot where
  have_ : Bool
  item : ByteArray
def Slot.cells (s : Slot) : List Value := [.bool s.have_, .string s.item]
def slotAt (ts : List Slot) (k : Nat) : Slot := ts.getD k ⟨false, ByteArray.empty⟩
theorem slotAt_lt {ts : List Slot} {k : Nat} (h : k < ts.length) : slotAt ts k = ts[k] := by simp [slotAt, h]
def fitL (ts : List Slot) : Prop := ∀ k, k < ts.length → (slotAt ts k).item.size ≤ maxLen
theorem Rd.slots {w : World} {A : Option Addr} {n : Nat} {ts : List Slot} (h : Rd w A n 2 (ts.map Slot.cells)) (hn : 0 < n) :
    ∃ b off, A = some ⟨b, off, none⟩ ∧ b < w.heap.size ∧ ∀ k, k < n → w.cell? ⟨b, off + k * 2, none⟩ = some (.bool (slotAt ts k).have_) ∧ w.cell? ⟨b, off + k * 2 + 1, none⟩ = some (.string (slotAt ts k).item) := by
  obtain ⟨b, off, hA, hb, hc⟩ := h.at_ hn
  refine ⟨b, off, hA, hb, fun k hk => ?_⟩
  have hl : ts.length = n := by simpa using h.len
  have hk' : k < ts.length := by omega
  have hx : (ts.map Slot.cells)[k]? = some (slotAt ts k).cells := by simp [slotAt, hk']
  exact ⟨hc k 0 _ _ hx rfl, hc k 1 _ _ hx rfl⟩
theorem Rd.slotlen {w : World} {A : Option Addr} {n : Nat} {ts : List Slot} (h : Rd w A n 2 (ts.map Slot.cells)) : ts.length = n := by simpa using h.len
theorem Row.slots {w : World} {lo : Nat} {e : TypeId} {A : Option Addr} {n c : Nat} {ts : List Slot} (h : Row w lo e 2 Slot.cells A n c ts) (hn : 0 < n) :
    ∃ g, A = some ⟨g, 0, none⟩ ∧ lo ≤ g ∧ g < w.heap.size ∧ (∀ j, w.frozen? ⟨g, j, none⟩ = false) ∧ ∀ k, k < n → w.cell? ⟨g, k * 2, none⟩ = some (.bool (slotAt ts k).have_) ∧ w.cell? ⟨g, k * 2 + 1, none⟩ = some (.string (slotAt ts k).item) := by
  obtain ⟨g, rfl, hlo, hlt⟩ := h.form hn
  obtain ⟨b, off, hA, _, hc⟩ := (h.rd (fun _ => rfl)).slots hn
  simp only [Option.some.injEq, Addr.mk.injEq, and_true] at hA
  obtain ⟨rfl, rfl⟩ := hA
  exact ⟨g, rfl, hlo, hlt, fun j => h.frozen j, fun k hk => by simpa using hc k hk⟩
theorem infoSlot : (Tryz.prog.info? 148).map (fun i => (i.zero, i.size, i.bytes)) = some (some (.agg #[.bool false, .string ByteArray.empty]), 2, 24) := by kernel_rfl
theorem trod_two {H : Type} {enc : TypeId × Value → H} {P : Program} {w : World} {t : TypeId} {f0 f1 : Field} {n : Nat} {cs : List Value} {x : DataW H × List MemPlace} {base : Nat} {spare : Nat → Bool} {held : Bool} (ht : P.underlying t = some (.struct #[f0, f1])) (hone : oneCellFields P #[f0, f1] = true) (hC : P.cellsOf t = 2) (h : DataW.trod enc P w base spare held n t cs = some x) :
    ∃ (a b : Value) (y0 y1 : DataW H × List MemPlace) (m : Nat), cs = [a, b] ∧ DataW.trod enc P w base spare held m f0.type [a] = some y0 ∧ DataW.trod enc P w base spare held m f1.type [b] = some y1 := by
  obtain ⟨y0, y1, n, _, hl, h0, h1⟩ := trod_struct2 ht h
  rw [hC] at hl
  obtain ⟨o0, k0⟩ := hone_of hone 0 f0 rfl
  obtain ⟨o1, k1⟩ := hone_of hone 1 f1 rfl
  match cs, hl with
  | [a, b], _ => exact ⟨a, b, y0, y1, n, rfl, by simpa [o0, k0] using h0, by simpa [o1, k1] using h1⟩
theorem trod_slot {H : Type} {enc : TypeId × Value → H} {w : World} {n : Nat} {cs : List Value} {x : DataW H × List MemPlace} {base : Nat} {spare : Nat → Bool} {held : Bool} (h : DataW.trod enc Tryz.prog w base spare held n 199 cs = some x) :
    ∃ t : { s : Slot // s.item.size ≤ maxLen }, cs = t.1.cells := by
  obtain ⟨a, b, y0, y1, m, rfl, h0, h1⟩ := trod_two Tryz.underlying199 (by kernel_rfl) (by kernel_rfl) h
  obtain ⟨v, hv, _⟩ := DataW.trod_bool Tryz.underlying4 h0
  obtain ⟨s, hs, _, hz⟩ := DataW.trod_string Tryz.underlying9 h1
  simp only [List.cons.injEq, and_true] at hv hs
  subst hv hs
  exact ⟨⟨⟨v, s⟩, hz⟩, rfl⟩
set_option maxRecDepth 100000 in
theorem open_rw {H : Type} {enc : TypeId × Value → H} {w : World} {v : Value} {d : DataW H} {p : List MemPlace} (hv : Value.okWide Tryz.prog w .any 0 114 v) (h : DataW.Trod enc Tryz.prog w 0 (fun _ => true) true 114 v d p) :
    ∃ (t : Int) (A : Option Addr) (n c : Nat) (ts : List Slot), v = .agg #[.int .i64 t, .slice A n c] ∧ n ≤ c ∧ c ≤ maxLen ∧ fitL ts ∧ Rd w A n 2 (ts.map Slot.cells) := by
  obtain ⟨c0, c1, y0, y1, m, rfl, _, _, hy0, hy1⟩ := open_agg2 Tryz.underlying114 (by kernel_rfl) (by kernel_rfl) hv h
  obtain ⟨t, ht, _⟩ := DataW.trod_int Tryz.underlying3 hy0
  obtain ⟨A, n, c, ts, rfl, h1, h2, h3⟩ := trod_rd (sz := 2) (T := { s : Slot // s.item.size ≤ maxLen }) (fun t => t.1.cells) Tryz.underlying112 (by kernel_rfl) (by omega) (fun n cs x hx => trod_slot hx) hy1
  simp only [List.cons.injEq, and_true] at ht
  subst ht
  refine ⟨t, A, n, c, ts.map (·.1), rfl, h1, h2, fun k hk => ?_, by simpa [List.map_map, Function.comp_def] using h3⟩
  rw [slotAt_lt hk]
  simp only [List.getElem_map]
  exact (ts[k]'(by simpa using hk)).2
theorem c_toSlot (a : Bool) (d : ByteArray) (w : World) : Calls Tryz.prog 169 #[.agg #[.bool a, .string d]] w fun e w' => e = .returned (.agg #[.bool a, .string d]) ∧ Bw w w' := by
  go_enter Tryz.func169, Tryz.ntmps169
  go_wp2
  exact bodyPost_ret (v := .agg #[.bool a, .string d]) (by simp [results, Tryz.results169, go_sem]) rfl ⟨rfl, by (repeat (first | with_reducible assumption | exact Bw.refl _ | (with_reducible refine Bw.setCell ?_ (by simp) _) | (with_reducible refine Bw.alloc ?_ _) | (with_reducible refine Bw.drew ?_) | (with_reducible refine Bw.drewN ?_ _)))⟩
theorem c_eqSlot (a : Bool) (d : ByteArray) (w : World) : Calls Tryz.prog 165 #[.agg #[.bool a, .string d], .agg #[.bool a, .string d]] w fun e w' => e = .returned (.bool true) ∧ Bw w w' := by
  go_enter Tryz.func165, Tryz.ntmps165
  go_wp2
  go_ret
  exact ⟨rfl, by (repeat (first | with_reducible assumption | exact Bw.refl _ | (with_reducible refine Bw.setCell ?_ (by simp) _) | (with_reducible refine Bw.alloc ?_ _) | (with_reducible refine Bw.drew ?_) | (with_reducible refine Bw.drewN ?_ _)))⟩
theorem c_szSlot (a : Bool) (d : ByteArray) (L : Int) (hd : d.size ≤ maxLen) (h0 : 0 ≤ L) (h1 : L ≤ 1048576) (w : World) : Calls Tryz.prog 166 #[.agg #[.bool a, .string d], .int .i64 L] w fun e w' => (∃ m : Int, e = .returned (.int .i64 m) ∧ -1 ≤ m ∧ m ≤ 1048576) ∧ Bw w w' := by
  unfold maxLen at hd
  go_enter Tryz.func166, Tryz.ntmps166
  go_wp2
  all_goals
    go_ret
    exact ⟨⟨_, rfl, by omega, by omega⟩, by (repeat (first | with_reducible assumption | exact Bw.refl _ | (with_reducible refine Bw.setCell ?_ (by simp) _) | (with_reducible refine Bw.alloc ?_ _) | (with_reducible refine Bw.drew ?_) | (with_reducible refine Bw.drewN ?_ _)))⟩
theorem c_szSlotS (A : Option Addr) (n c : Nat) (ts : List Slot) (w : World) (hm : n ≤ 9223372036854775807) (hf : fitL ts) (h : Rd w A n 2 (ts.map Slot.cells)) :
    Calls Tryz.prog 145 #[.slice A n c, .int .i64 1048576] w fun e w' => (∃ m : Int, e = .returned (.int .i64 m) ∧ m ≤ 1048576 ∧ (m < 0 ∨ n ≤ 1048576)) ∧ Bw w w' := by
  have hl := Lib.hid h.slotlen
  have HF := Lib.hid hf
  clear hf
  go_enter Tryz.func145, Tryz.ntmps145
  by_cases hN : n ≤ 1048576
  · go_wp2
    go_loopw [1, 5] (fun lv i wr => ∃ (k : Nat) (L : Int), k ≤ n ∧ i = .int .i64 k ∧ lv = .int .i64 L ∧ 0 ≤ L ∧ L ≤ 1048576 ∧ Bw w wr) (fun _ i _ => n - (intOf i).toNat)
    case atStart => exact ⟨0, _, Nat.zero_le _, rfl, rfl, by omega, by omega, Bw.refl _⟩
    case round =>
      obtain ⟨k, L, hk, rfl, rfl, hL0, hL1, hbl⟩ := hrel
      by_cases hlt : k < n
      · obtain ⟨b, off, rfl, hb, hc⟩ := (h.keep hbl).slots (by omega)
        have ⟨h0, h1⟩ := hc k hlt
        have hfk := HF.out k (by rw [hl.out]; exact hlt)
        clear hc
        generalize slotAt ts k = s at *
        have HFK := Lib.hid hfk
        clear hfk
        go_wp2_with (go_at_call 166; refine (c_szSlot _ _ L HFK.out hL0 hL1 _).mono ?_; rintro e w1 ⟨⟨m, rfl, hm0, hm1⟩, hb1⟩)
        · go_ret
          (first | exact ⟨⟨_, rfl, by omega, by omega⟩, hbl.trans hb1⟩ | exact ⟨⟨_, rfl, by omega⟩, hbl.trans hb1⟩)
        · go_roundw
          case rel => exact ⟨k + 1, _, by omega, by go_num, rfl, by omega, by omega, hbl.trans hb1⟩
          case measure => simp [intOf]; omega
      · go_wp2
        go_ret
        (first | exact ⟨⟨_, rfl, by omega, by omega⟩, hbl⟩ | exact ⟨⟨_, rfl, by omega⟩, hbl⟩)
  · go_wp2
    go_ret
    (first | exact ⟨⟨_, rfl, by omega, by omega⟩, Bw.refl _⟩ | exact ⟨⟨_, rfl, by omega⟩, Bw.refl _⟩)
end Go.Proofs.YtpjljbhodnlhmaaGreatDoor

namespace Go.Proofs.YtpjljbhodnlhmaaGreatDoor
open Go.RowKit
theorem c_toSlotS (A : Option Addr) (n c : Nat) (ts : List Slot) (w : World) (hm : n ≤ 1048576) (h : Rd w A n 2 (ts.map Slot.cells)) :
    Calls Tryz.prog 153 #[.slice A n c] w fun e w' => (∃ A' c', e = .returned (.slice A' n c') ∧ Row w' w.heap.size 148 2 Slot.cells A' n c' ts) ∧ Bw w w' := by
  have hl := Lib.hid h.slotlen
  obtain ⟨i0, hi, hz0, hz1, hz2⟩ := info_parts infoSlot
  have hmk : ∀ W, (Instr.makeSlice 91 (.int .i64 (n : Int)) (.int .i64 (n : Int))).run Tryz.prog W = .ok (.slice (some ⟨W.heap.size, 0, none⟩) n n) (W.alloc (.cells (madeCells #[.bool false, .string ByteArray.empty] (n * 2)) 148)) := fun W => by
    have := run_make (P := Tryz.prog) W 91 148 i0 _ Tryz.underlying91 hi hz0 .i64 .i64 n n (by omega) (by omega) (by rw [hz2]; omega) (by omega)
    rw [hz1] at this
    exact this
  clear hi hz0 hz1 hz2
  go_enter Tryz.func153, Tryz.ntmps153
  go_wp2
  go_loopw [4] (fun i wr => ∃ k : Nat, k ≤ n ∧ i = .int .i64 k ∧ Row wr w.heap.size 148 2 Slot.cells (some ⟨w.heap.size, 0, none⟩) n n (mix ⟨false, ByteArray.empty⟩ n k ts) ∧ Bw w wr) (fun i _ => n - (intOf i).toNat)
  case atStart =>
    refine ⟨0, Nat.zero_le _, rfl, ⟨?_, by simp [mix]⟩, (Bw.refl _).alloc _⟩
    have := World.ownsRow_lit (base := w.heap.size) (e := 148) (size := 2) w (madeCells #[.bool false, .string ByteArray.empty] (n * 2)) n (Nat.le_refl _) (by unfold maxLen; omega) (size_madeCells _ _)
    have e1 := madeCells_flat #[.bool false, .string ByteArray.empty] (by simp) n
    have e2 : (#[Value.bool false, Value.string ByteArray.empty] : Array Value).size = 2 := rfl
    rw [e2] at e1
    rw [e1] at this
    rw [mix_zero, List.flatMap_replicate]
    exact this
  case round =>
    obtain ⟨k, hk, rfl, hrow, hbl⟩ := hrel
    by_cases hlt : k < n
    · obtain ⟨b, off, rfl, hb, hc⟩ := (h.keep hbl).slots (by omega)
      have ⟨h0, h1⟩ := hc k hlt
      clear hc
      go_wp2_with (go_at_call 169; refine (c_toSlot _ _ _).mono ?_; rintro e w1 ⟨rfl, hb1⟩; have hrow1 := hrow.keep hb1; obtain ⟨g, hg, hlo, hgl, hfz, hcc⟩ := hrow1.slots (by omega); obtain rfl : w.heap.size = g := (by simpa using hg); have ⟨q0, q1⟩ := hcc k hlt; clear hcc)
      go_roundw
      case rel =>
        have hs := hrow1.setN (t := slotAt ts k) (fun _ => rfl) hlt rfl
        refine ⟨k + 1, by omega, by go_num, ?_, (hbl.trans hb1).grown hs.2 (by simp)⟩
        rw [← mix_succ _ _ _ _ hl.out hlt]
        exact hs.1
      case measure => simp [intOf]; omega
    · go_wp2
      go_ret
      obtain rfl : k = n := by omega
      rw [mix_all _ _ _ hl.out] at hrow
      exact ⟨⟨_, _, rfl, hrow⟩, hbl⟩
theorem c_eqSlotS (A A' : Option Addr) (n c c' : Nat) (ts : List Slot) (w : World) (hm : n ≤ 9223372036854775807) (h : Rd w A n 2 (ts.map Slot.cells)) (h' : Rd w A' n 2 (ts.map Slot.cells)) :
    Calls Tryz.prog 142 #[.slice A n c, .slice A' n c'] w fun e w' => e = .returned (.bool true) ∧ Bw w w' := by
  go_enter Tryz.func142, Tryz.ntmps142
  go_wp2
  go_loopw [5] (fun i wr => ∃ k : Nat, k ≤ n ∧ i = .int .i64 k ∧ Bw w wr) (fun i _ => n - (intOf i).toNat)
  case atStart => exact ⟨0, Nat.zero_le _, rfl, Bw.refl _⟩
  case round =>
    obtain ⟨k, hk, rfl, hbl⟩ := hrel
    by_cases hlt : k < n
    · obtain ⟨b, off, rfl, hb, hc⟩ := (h.keep hbl).slots (by omega)
      obtain ⟨b', off', rfl, hb', hc'⟩ := (h'.keep hbl).slots (by omega)
      have ⟨h0, h1⟩ := hc k hlt
      have ⟨p0, p1⟩ := hc' k hlt
      clear hc hc'
      go_wp2
      (refine wp_region_ext (by kernel_rfl) (by kernel_rfl) ?_; (repeat (go_big_quiet_step ((exact Ext.calls (c_eqSlot _ _ _))))); (with_reducible refine wpQuiet_nil ?_); intro w2 hb2)
      go_wp2
      go_roundw
      case rel => exact ⟨k + 1, by omega, by go_num, hbl.trans hb2⟩
      case measure => simp [intOf]; omega
    · go_wp2
      go_ret
      exact ⟨rfl, hbl⟩
theorem c_szReceiveWindow (t : Int) (A : Option Addr) (n c : Nat) (ts : List Slot) (hf : fitL ts) (hm : n ≤ 9223372036854775807) (w : World) (h : Rd w A n 2 (ts.map Slot.cells)) : Calls Tryz.prog 113 #[.agg #[.int .i64 t, .slice A n c], .int .i64 1048576] w fun e w' => (∃ m : Int, e = .returned (.int .i64 m) ∧ m ≤ 1048576 ∧ (m < 0 ∨ n ≤ 1048576)) ∧ Bw w w' := by
  go_enter Tryz.func113, Tryz.ntmps113
  go_wp2_with (go_at_call 145; refine (c_szSlotS _ _ _ ts _ hm hf (h.keep (Bw.alloc (Bw.refl _) _))).mono ?_; rintro e w1 ⟨⟨m, rfl, hmx, hmm⟩, hb1⟩)
  all_goals
    go_ret
    exact ⟨⟨_, rfl, by omega, by omega⟩, Bw.trans (Bw.alloc (Bw.refl _) _) hb1⟩
set_option maxRecDepth 100000 in
theorem c_toReceiveWindow (t : Int) (A : Option Addr) (n c : Nat) (ts : List Slot) (w : World) (hm : n ≤ 1048576) (h : Rd w A n 2 (ts.map Slot.cells)) :
    Calls Tryz.prog 123 #[.agg #[.int .i64 t, .slice A n c]] w fun e w' => (∃ A' c', e = .returned (.agg #[.int .i64 t, .slice A' n c']) ∧ Row w' w.heap.size 148 2 Slot.cells A' n c' ts) ∧ Bw w w' := by
  go_enter Tryz.func123, Tryz.ntmps123
  go_wp2_with (go_at_call 153; refine (c_toSlotS _ _ _ ts _ hm (h.keep (Bw.alloc (Bw.alloc (Bw.alloc (Bw.refl _) _) _) _))).mono ?_; rintro e w1 ⟨⟨A1, c1, rfl, row1⟩, hb1⟩; have hr1 := hb1.rule; have hf1 := hb1.frz; have hs1 : w.heap.size + 3 ≤ w1.heap.size := (by have := hb1.size; simpa using this); have b10 := hb1.cellv (p := ⟨w.heap.size + 1, 0, none⟩) (v := .int .i64 0) (by go_simp); have b11 := hb1.cellv (p := ⟨w.heap.size + 1, 1, none⟩) (v := .slice none 0 0) (by go_simp); have b20 := hb1.cellv (p := ⟨w.heap.size + 2, 0, none⟩) (v := .int .i64 t) (by go_simp); have b21 := hb1.cellv (p := ⟨w.heap.size + 2, 1, none⟩) (v := .slice none 0 0) (by go_simp))
  have lt1 := row1.lt
  have ne1 : ∀ (k : Nat), k < w.heap.size + 3 → ∀ x, A1 = some x → k ≠ x.block := fun k hk x hx he => by have := (lt1 x hx).1; simp at this; omega
  have r1 := row1.store ⟨w.heap.size + 2, 1, none⟩ (.slice A1 n c1) (ne1 (w.heap.size + 2) (by omega))
  have r2 := r1.store ⟨w.heap.size + 1, 0, none⟩ (.int .i64 t) (ne1 (w.heap.size + 1) (by omega))
  have r3 := r2.store ⟨w.heap.size + 1, 1, none⟩ (.slice A1 n c1) (ne1 (w.heap.size + 1) (by omega))
  have hb : Bw w w1 := Bw.trans (by (repeat (first | with_reducible assumption | exact Bw.refl _ | (with_reducible refine Bw.setCell ?_ (by simp) _) | (with_reducible refine Bw.alloc ?_ _) | (with_reducible refine Bw.drew ?_) | (with_reducible refine Bw.drewN ?_ _)))) hb1
  have k4 := ((hb.setCell (p := ⟨w.heap.size + 2, 1, none⟩) (by simp) (.slice A1 n c1)).setCell (p := ⟨w.heap.size + 1, 0, none⟩) (by simp) (.int .i64 t)).setCell (p := ⟨w.heap.size + 1, 1, none⟩) (by simp) (.slice A1 n c1)
  exact bodyPost_ret (v := .agg #[.int .i64 t, .slice A1 n c1]) (by simp [results, Tryz.results123, go_sem, b10, b11, b20, b21]) rfl ⟨⟨_, _, rfl, r3.mono (by simp; omega)⟩, k4⟩
theorem c_eqReceiveWindow (t : Int) (A A' : Option Addr) (n c c' : Nat) (ts : List Slot) (w : World) (hm : n ≤ 9223372036854775807) (h : Rd w A n 2 (ts.map Slot.cells)) (h' : Rd w A' n 2 (ts.map Slot.cells)) :
    Calls Tryz.prog 105 #[.agg #[.int .i64 t, .slice A n c], .agg #[.int .i64 t, .slice A' n c']] w fun e w' => e = .returned (.bool true) ∧ Bw w w' := by
  go_enter Tryz.func105, Tryz.ntmps105
  go_wp2_with (go_at_call 142; refine (c_eqSlotS _ _ _ _ _ ts _ hm (h.keep (Bw.alloc (Bw.alloc (Bw.refl _) _) _)) (h'.keep (Bw.alloc (Bw.alloc (Bw.refl _) _) _))).mono ?_; rintro e w1 ⟨rfl, hb1⟩)
  go_ret
  exact ⟨rfl, Bw.trans (Bw.alloc (Bw.alloc (Bw.refl _) _) _) hb1⟩
end Go.Proofs.YtpjljbhodnlhmaaGreatDoor

namespace Go.Proofs.YtpjljbhodnlhmaaGreatDoor
open Go.RowKit
def slotB (s : Slot) : Bool := itemB s.item && (s.have_ || decide (s.item.toList = []))
def badS (s : Slot) : Bool := !slotB s
def slotsB (ts : List Slot) : Bool := ts.all slotB
def edgeB (ts : List Slot) : Bool := decide (ts.length = 0) || (!(slotAt ts 0).have_ && (slotAt ts (ts.length - 1)).have_)
def rwB (t : Int) (ts : List Slot) : Bool := inR t 0 65535 && (decide (ts.length ≤ 8) && (slotsB ts && edgeB ts))
theorem rwB_iff {t : Int} {ts : List Slot} : rwB t ts = true ↔ inR t 0 65535 = true ∧ ts.length ≤ 8 ∧ slotsB ts = true ∧ edgeB ts = true := by simp [rwB]
theorem slotsB_no {ts : List Slot} {k : Nat} (hk : k < ts.length) (h : slotB (slotAt ts k) = false) : slotsB ts = false := by
  rw [slotsB, List.all_eq_false]; exact ⟨ts[k], List.getElem_mem _, by rw [← slotAt_lt hk, h]; simp⟩
theorem slotsB_yes {ts : List Slot} (h : ∀ j (_ : j < ts.length), slotB ts[j] = true) : slotsB ts = true := by
  rw [slotsB, List.all_eq_true]
  intro x hx
  obtain ⟨j, hj, rfl⟩ := List.getElem_of_mem hx
  exact h j hj
theorem idx_slots (ts : List Slot) : decide (0 ≤ idxPI badS ts) = !slotsB ts := by
  rw [idxPI]
  split
  · rename_i h
    have := List.findIdx_getElem (xs := ts) (p := badS) (w := h)
    have h1 : slotsB ts = false := slotsB_no h (by rw [slotAt_lt h]; have q := this; simp only [badS, Bool.not_eq_true'] at q; exact q)
    simp [h1]
  · rename_i h
    have h1 : slotsB ts = true := by
      rw [slotsB, List.all_eq_true]
      intro x hx
      have := mt List.findIdx_lt_length.2 h
      simp only [not_exists, not_and] at this
      have := this x hx
      simpa [badS] using this
    simp [h1]
theorem c_valid1 (a : Bool) (d : ByteArray) (hd : d.size ≤ maxLen) {r : Bool} (hr : badS ⟨a, d⟩ = r) (w : World) : Calls Tryz.prog 160 #[.agg #[.bool a, .string d]] w fun e w' => e = .returned (.bool r) ∧ Bw w w' := by
  subst hr
  cases hi : itemB d
  · go_enter Tryz.func160, Tryz.ntmps160
    go_wp2_with (go_at_call 157; refine (c_isItem _ hd hi _).mono ?_; rintro e w1 ⟨rfl, hb1⟩)
    go_ret
    exact ⟨ret_bool (by simp [badS, slotB, hi]), Bw.trans (Bw.alloc (Bw.refl _) _) hb1⟩
  · cases a
    · by_cases hz : d.toList = []
      all_goals
        go_enter Tryz.func160, Tryz.ntmps160
        go_wp2_with (go_at_call 157; refine (c_isItem _ hd hi _).mono ?_; rintro e w1 ⟨rfl, hb1⟩; have d0 := hb1.cellv (p := ⟨w.heap.size, 0, none⟩) (v := .bool false) (by go_simp); have d1 := hb1.cellv (p := ⟨w.heap.size, 1, none⟩) (v := .string d) (by go_simp))
        go_ret
        exact ⟨ret_bool (by simp [badS, slotB, hi, hz]), Bw.trans (Bw.alloc (Bw.refl _) _) hb1⟩
    · go_enter Tryz.func160, Tryz.ntmps160
      go_wp2_with (go_at_call 157; refine (c_isItem _ hd hi _).mono ?_; rintro e w1 ⟨rfl, hb1⟩; have d0 := hb1.cellv (p := ⟨w.heap.size, 0, none⟩) (v := .bool true) (by go_simp); have d1 := hb1.cellv (p := ⟨w.heap.size, 1, none⟩) (v := .string d) (by go_simp))
      go_ret
      exact ⟨ret_bool (by simp [badS, slotB, hi]), Bw.trans (Bw.alloc (Bw.refl _) _) hb1⟩
theorem c_IndexFuncSlots (A : Option Addr) (n c : Nat) (ts : List Slot) (hf : fitL ts) {mm : Int} (hmm : idxPI badS ts = mm) (w : World) (hm : n ≤ 9223372036854775807) (h : Rd w A n 2 (ts.map Slot.cells)) :
    Calls Tryz.prog 172 #[.slice A n c, .func (.func 160) #[] #[]] w fun e w' => e = .returned (.int .i64 mm) ∧ Bw w w' := by
  subst hmm
  have hl := Lib.hid h.slotlen
  have HF := Lib.hid hf
  clear hf
  go_enter Tryz.func172, Tryz.ntmps172
  go_wp2
  go_loopw [8] (fun i wr => ∃ k : Nat, k ≤ n ∧ i = .int .i64 k ∧ (∀ j (hj : j < k) (hj2 : j < ts.length), badS ts[j] = false) ∧ Bw w wr) (fun i _ => n - (intOf i).toNat)
  case atStart => exact ⟨0, Nat.zero_le _, rfl, fun j hj => absurd hj (by omega), Bw.refl _⟩
  case round =>
    obtain ⟨k, hk, rfl, hst, hbl⟩ := hrel
    have Hst := Lib.hid hst
    clear hst
    by_cases hkn : k < n
    · obtain ⟨b, off, rfl, hb, hc⟩ := (h.keep hbl).slots (by omega)
      have ⟨h0, h1⟩ := hc k hkn
      clear hc
      have hkt : k < ts.length := by rw [hl.out]; exact hkn
      have Ht := Lib.hid (slotAt_lt hkt)
      have Hs := Lib.hid (HF.out k hkt)
      cases hp : badS (slotAt ts k)
      · have Hp := Lib.hid hp
        go_wp2_with (go_at_call 160; refine (c_valid1 _ _ Hs.out Hp.out _).mono ?_; rintro e w1 ⟨rfl, hb1⟩)
        go_roundw
        case rel =>
          refine ⟨k + 1, by omega, by go_num, ?_, hbl.trans hb1⟩
          intro j hj hj2
          rcases Nat.lt_succ_iff_lt_or_eq.1 hj with h9 | h9
          · exact Hst.out j h9 hj2
          · subst h9; rw [← Ht.out]; exact hp
        case measure => simp [intOf]; omega
      · have Hp := Lib.hid hp
        go_wp2_with (go_at_call 160; refine (c_valid1 _ _ Hs.out Hp.out _).mono ?_; rintro e w1 ⟨rfl, hb1⟩)
        go_ret
        have he := idxP_eq (p := badS) (ts := ts) hkt (by rw [← Ht.out]; exact hp) (fun j hj => Hst.out j hj (by omega))
        exact ⟨ret_int (by simp [idxPI, he, hkt]), hbl.trans hb1⟩
    · go_wp2
      go_ret
      have he := idxP_none (p := badS) (ts := ts) (fun j hj => Hst.out j (by rw [hl.out] at hj; omega) hj)
      exact ⟨ret_int (by simp [idxPI, he]), hbl⟩
theorem c_ContainsFuncSlots (A : Option Addr) (n c : Nat) (ts : List Slot) (hf : fitL ts) {r : Bool} (hr : slotsB ts = r) (w : World) (hm : n ≤ 9223372036854775807) (h : Rd w A n 2 (ts.map Slot.cells)) :
    Calls Tryz.prog 159 #[.slice A n c, .func (.func 160) #[] #[]] w fun e w' => e = .returned (.bool (!r)) ∧ Bw w w' := by
  subst hr
  generalize hm : idxPI badS ts = mm
  have HR := Lib.hid (show decide (0 ≤ mm) = !slotsB ts by rw [← hm, idx_slots])
  have HM := Lib.hid hm
  clear hm
  go_enter Tryz.func159, Tryz.ntmps159
  go_wp2_with (go_at_call 172; refine (c_IndexFuncSlots _ _ _ ts hf HM.out _ hm h).mono ?_; rintro e w1 ⟨rfl, hb1⟩)
  go_ret
  exact ⟨ret_bool HR.out, hb1⟩
end Go.Proofs.YtpjljbhodnlhmaaGreatDoor

namespace Go.Proofs.YtpjljbhodnlhmaaGreatDoor
open Go.RowKit
set_option maxRecDepth 100000 in
theorem c_IsValidReceiveWindow (t : Int) (A : Option Addr) (n c : Nat) (ts : List Slot) (hf : fitL ts) {r : Bool} (hr : rwB t ts = r) (w : World) (hm : n ≤ 9223372036854775807) (h : Rd w A n 2 (ts.map Slot.cells)) :
    Calls Tryz.prog 132 #[.agg #[.int .i64 t, .slice A n c]] w fun e w' => e = .returned (.bool r) ∧ Bw w w' := by
  subst hr
  have hl := Lib.hid h.slotlen
  have hbx : Bw w (w.alloc (.cells #[.int .i64 t, .slice A n c] 93)) := Bw.alloc (Bw.refl _) _
  cases h1 : inR t 0 65535
  · go_enter Tryz.func132, Tryz.ntmps132
    go_wp2_with (go_at_call 86; refine (c_IsSerial _ h1 _).mono ?_; rintro e w1 ⟨rfl, rfl⟩)
    go_ret
    exact ⟨ret_bool (by simp [rwB, h1]), hbx⟩
  · by_cases h3 : n ≤ 8
    · cases h4 : slotsB ts
      · go_enter Tryz.func132, Tryz.ntmps132
        go_wp2_with (first | (go_at_call 86; refine (c_IsSerial _ h1 _).mono ?_; rintro e w1 ⟨rfl, rfl⟩) | (go_at_call 159; refine (c_ContainsFuncSlots _ _ _ ts hf h4 _ hm (h.keep hbx)).mono ?_; rintro e w1 ⟨rfl, hb1⟩))
        go_ret
        exact ⟨ret_bool (by simp [rwB, h4]), hbx.trans hb1⟩
      · have H4 := Lib.hid h4
        rcases Nat.eq_zero_or_pos n with rfl | hpos
        · have HE := Lib.hid (show rwB t ts = true by simp [rwB, h1, hl.out, h4, edgeB])
          clear h4
          go_enter Tryz.func132, Tryz.ntmps132
          go_wp2_with (first | (go_at_call 86; refine (c_IsSerial _ h1 _).mono ?_; rintro e w1 ⟨rfl, rfl⟩) | (go_at_call 159; refine (c_ContainsFuncSlots _ _ _ ts hf H4.out _ hm (h.keep hbx)).mono ?_; rintro e w1 ⟨rfl, hb1⟩; have d0 := hb1.cellv (p := ⟨w.heap.size, 0, none⟩) (v := .int .i64 t) (by go_simp); have d1 := hb1.cellv (p := ⟨w.heap.size, 1, none⟩) (v := .slice A 0 c) (by go_simp)))
          go_ret
          exact ⟨ret_bool HE.out.symm, hbx.trans hb1⟩
        · obtain ⟨p, rfl⟩ : ∃ p, n = p + 1 := ⟨n - 1, by omega⟩
          obtain ⟨b, off, rfl, hb, hc⟩ := h.slots hpos
          have q0 := (hc 0 (by omega)).1
          simp only [Nat.zero_mul, Nat.add_zero] at q0
          have q1 := (hc p (by omega)).1
          clear hc
          have HE := Lib.hid (show rwB t ts = (!(slotAt ts 0).have_ && (slotAt ts p).have_) by
            simp only [rwB, h1, hl.out, h4, edgeB, Bool.true_and]
            rw [decide_eq_true h3, Bool.true_and]
            simp)
          clear h4
          generalize (slotAt ts 0).have_ = a0 at *
          generalize (slotAt ts p).have_ = ap at *
          rw [HE.out]
          cases a0
          all_goals cases ap
          all_goals
            go_enter Tryz.func132, Tryz.ntmps132
            go_wp2_with (first | (go_at_call 86; refine (c_IsSerial _ h1 _).mono ?_; rintro e w1 ⟨rfl, rfl⟩) | (go_at_call 159; refine (c_ContainsFuncSlots _ _ _ ts hf H4.out _ hm (h.keep hbx)).mono ?_; rintro e w1 ⟨rfl, hb1⟩; have d0 := hb1.cellv (p := ⟨w.heap.size, 0, none⟩) (v := .int .i64 t) (by go_simp); have d1 := hb1.cellv (p := ⟨w.heap.size, 1, none⟩) (v := .slice (some ⟨b, off, none⟩) (p + 1) c) (by go_simp); have q01 := (hbx.trans hb1).cellv q0; have q11 := (hbx.trans hb1).cellv q1))
            go_ret
            exact ⟨rfl, hbx.trans hb1⟩
    · go_enter Tryz.func132, Tryz.ntmps132
      go_wp2_with (go_at_call 86; refine (c_IsSerial _ h1 _).mono ?_; rintro e w1 ⟨rfl, rfl⟩)
      go_ret
      exact ⟨ret_bool (by simp [rwB, hl.out]; intros; omega), hbx⟩
set_option maxRecDepth 100000 in
theorem c_l10Good (t : Int) (A : Option Addr) (n c : Nat) (ts : List Slot) (hf : fitL ts) {r : Bool} (hr : rwB t ts = r) (w : World) (hm : n ≤ 9223372036854775807) (h : Rd w A n 2 (ts.map Slot.cells)) :
    Calls Tryz.prog 147 #[.agg #[.int .i64 t, .slice A n c]] w fun e w' => e = .returned (.bool r) ∧ Bw w w' := by
  subst hr
  have hl := Lib.hid h.slotlen
  have hbx : Bw w (w.alloc (.cells #[.int .i64 t, .slice A n c] 93)) := Bw.alloc (Bw.refl _) _
  have HF := Lib.hid hf
  clear hf
  cases h1 : inR t 0 65535
  · go_enter Tryz.func147, Tryz.ntmps147
    go_wp2_with (go_at_call 99; refine (c_l2Good _ h1 _).mono ?_; rintro e w1 ⟨rfl, rfl⟩)
    go_ret
    exact ⟨ret_bool (by simp [rwB, h1]), hbx⟩
  · by_cases h3 : n ≤ 8
    · have HE := Lib.hid (show rwB t ts = (slotsB ts && edgeB ts) by simp [rwB, h1, hl.out, h3])
      go_enter Tryz.func147, Tryz.ntmps147
      go_wp2_with (go_at_call 99; refine (c_l2Good _ h1 _).mono ?_; rintro e w1 ⟨rfl, rfl⟩)
      go_loop [4] (fun i => ∃ k : Nat, k ≤ n ∧ i = .int .i64 k ∧ (∀ j (hj : j < k) (hj2 : j < ts.length), slotB ts[j] = true)) (fun i => n - (intOf i).toNat)
      case atStart => exact ⟨0, Nat.zero_le _, rfl, fun j hj => absurd hj (by omega)⟩
      case round =>
        obtain ⟨k, hk, rfl, hst⟩ := hrel
        have Hst := Lib.hid hst
        clear hst
        by_cases hkn : k < n
        · obtain ⟨b, off, rfl, hb, hc⟩ := (h.keep hbx).slots (by omega)
          have ⟨h0, h2⟩ := hc k hkn
          clear hc
          have hkt : k < ts.length := by rw [hl.out]; exact hkn
          have Ht := Lib.hid (slotAt_lt hkt)
          have Hs := Lib.hid (HF.out k hkt)
          have HB := Lib.hid (show slotB (slotAt ts k) = (itemB (slotAt ts k).item && ((slotAt ts k).have_ || decide ((slotAt ts k).item.toList = []))) from rfl)
          have HN := Lib.hid (fun h => slotsB_no (ts := ts) hkt h)
          have HY := Lib.hid (show slotB (slotAt ts k) = true → ∀ j (hj : j < k + 1) (hj2 : j < ts.length), slotB ts[j] = true from fun hp j hj hj2 => by
            rcases Nat.lt_succ_iff_lt_or_eq.1 hj with h9 | h9
            · exact Hst.out j h9 hj2
            · subst h9; rw [← Ht.out]; exact hp)
          clear Ht
          generalize slotAt ts k = s at *
          obtain ⟨a, d⟩ := s
          simp only at h0 h2
          have HBB := Lib.hid (show slotB ⟨a, d⟩ = (itemB d && (a || decide (d.toList = []))) from rfl)
          have HS := Lib.hid (show d.size ≤ maxLen from Hs.out)
          clear HB Hs
          cases hp : itemB d
          · have Hp := Lib.hid hp
            have HZ := Lib.hid (HN.out (by rw [HBB.out, hp]; rfl))
            go_wp2_with (go_at_call 140; refine (c_l4Letters _ HS.out Hp.out _).mono ?_; rintro e w1 ⟨rfl, rfl⟩)
            go_ret
            exact ⟨ret_bool (by rw [HE.out, HZ.out]; rfl), hbx⟩
          · have Hp := Lib.hid hp
            cases a
            · by_cases hz : d.toList = []
              · have HZ := Lib.hid (HY.out (by rw [HBB.out, hp]; simp [hz]))
                go_wp2_with (go_at_call 140; refine (c_l4Letters _ HS.out Hp.out _).mono ?_; rintro e w1 ⟨rfl, rfl⟩)
                go_round
                case rel => exact ⟨k + 1, by omega, by go_num, HZ.out⟩
                case measure => simp [intOf]; omega
              · have HZ := Lib.hid (HN.out (by rw [HBB.out, hp]; simp [hz]))
                have hz2 : d.toList.isEmpty = false := by simpa using hz
                go_wp2_with (go_at_call 140; refine (c_l4Letters _ HS.out Hp.out _).mono ?_; rintro e w1 ⟨rfl, rfl⟩)
                go_ret
                exact ⟨ret_bool (by rw [HE.out, HZ.out]; rfl), hbx⟩
            · have HZ := Lib.hid (HY.out (by rw [HBB.out, hp]; simp))
              go_wp2_with (go_at_call 140; refine (c_l4Letters _ HS.out Hp.out _).mono ?_; rintro e w1 ⟨rfl, rfl⟩)
              go_round
              case rel => exact ⟨k + 1, by omega, by go_num, HZ.out⟩
              case measure => simp [intOf]; omega
        · have HA := Lib.hid (slotsB_yes (ts := ts) (fun j hj => Hst.out j (by rw [hl.out] at hj; omega) hj))
          obtain rfl : k = n := by omega
          rcases Nat.eq_zero_or_pos k with rfl | hpos
          · have HG := Lib.hid (show edgeB ts = true by simp [edgeB, hl.out])
            go_wp2
            go_ret
            exact ⟨ret_bool (by rw [HE.out, HA.out, HG.out]; rfl), hbx⟩
          · obtain ⟨p, rfl⟩ : ∃ p, k = p + 1 := ⟨k - 1, by omega⟩
            obtain ⟨b, off, rfl, hb, hc⟩ := (h.keep hbx).slots hpos
            have q0 := (hc 0 (by omega)).1
            simp only [Nat.zero_mul, Nat.add_zero] at q0
            have q1 := (hc p (by omega)).1
            clear hc
            have HG := Lib.hid (show edgeB ts = (!(slotAt ts 0).have_ && (slotAt ts p).have_) by simp [edgeB, hl.out])
            generalize (slotAt ts 0).have_ = a0 at *
            generalize (slotAt ts p).have_ = ap at *
            cases a0
            all_goals cases ap
            all_goals
              go_wp2
              go_ret
              exact ⟨ret_bool (by rw [HE.out, HA.out, HG.out]; rfl), hbx⟩
    · go_enter Tryz.func147, Tryz.ntmps147
      go_wp2_with (go_at_call 99; refine (c_l2Good _ h1 _).mono ?_; rintro e w1 ⟨rfl, rfl⟩)
      go_ret
      exact ⟨ret_bool (by simp [rwB, hl.out]; intros; omega), hbx⟩
end Go.Proofs.YtpjljbhodnlhmaaGreatDoor

namespace Go.Proofs.YtpjljbhodnlhmaaGreatDoor
open Go.RowKit
def seenR (t : Int) (ts : List Slot) : Int := if rwB t ts = true then aftI t ts.length else 0
end Go.Proofs.YtpjljbhodnlhmaaGreatDoor

namespace Go.Proofs.YtpjljbhodnlhmaaGreatDoor
open Go.RowKit
def hasB (t : Int) (ts : List Slot) (x : Int) : Bool := decide (gapI t x < ts.length) && (slotAt ts (gapI t x).toNat).have_
def haveB (t : Int) (ts : List Slot) (x : Int) : Bool := befI x t || hasB t ts x
set_option maxRecDepth 100000 in
theorem c_has (t : Int) (A : Option Addr) (n c : Nat) (ts : List Slot) (x : Int) (t0 : 0 ≤ t) (t1 : t ≤ 65535) (x0 : 0 ≤ x) (x1 : x ≤ 65535) {r : Bool} (hr : hasB t ts x = r) (w : World) (hn : n ≤ 9223372036854775807) (h : Rd w A n 2 (ts.map Slot.cells)) :
    Calls Tryz.prog 136 #[.agg #[.int .i64 t, .slice A n c], .int .i64 x] w fun e w' => e = .returned (.bool r) ∧ Bw w w' := by
  have hl := Lib.hid h.slotlen
  have hbx : Bw w (w.alloc (.cells #[.int .i64 t, .slice A n c] 93)) := Bw.alloc (Bw.refl _) _
  subst hr
  obtain ⟨k, hk⟩ := Int.eq_ofNat_of_zero_le (gapI_bd t x).1
  have HK := Lib.hid hk
  by_cases hkn : k < n
  · have HE := Lib.hid (show hasB t ts x = (slotAt ts k).have_ by simp [hasB, hk, hl.out, hkn])
    obtain ⟨b, off, rfl, hb, hc⟩ := (h.keep hbx).slots (by omega)
    have q0 := (hc k hkn).1
    clear hc hk
    generalize (slotAt ts k).have_ = a0 at *
    rw [HE.out]
    cases a0
    all_goals
      go_enter Tryz.func136, Tryz.ntmps136
      go_wp2_with (go_at_call 88; refine (c_gap _ _ HK.out t0 t1 x0 x1 _).mono ?_; rintro e w2 ⟨rfl, rfl⟩)
      go_ret
      exact ⟨rfl, hbx⟩
  · have HE := Lib.hid (show hasB t ts x = false by simp [hasB, hk, hl.out]; intro h; omega)
    clear hk
    go_enter Tryz.func136, Tryz.ntmps136
    go_wp2_with (go_at_call 88; refine (c_gap _ _ HK.out t0 t1 x0 x1 _).mono ?_; rintro e w2 ⟨rfl, rfl⟩)
    go_ret
    rw [HE.out]
    exact ⟨rfl, hbx⟩
set_option maxRecDepth 100000 in
theorem c_l10Have (t : Int) (A : Option Addr) (n c : Nat) (ts : List Slot) (x : Int) (t0 : 0 ≤ t) (t1 : t ≤ 65535) (x0 : 0 ≤ x) (x1 : x ≤ 65535) {r : Bool} (hr : haveB t ts x = r) (w : World) (hn : n ≤ 9223372036854775807) (h : Rd w A n 2 (ts.map Slot.cells)) :
    Calls Tryz.prog 149 #[.agg #[.int .i64 t, .slice A n c], .int .i64 x] w fun e w' => e = .returned (.bool r) ∧ Bw w w' := by
  have hl := Lib.hid h.slotlen
  have hbx : Bw w (w.alloc (.cells #[.int .i64 t, .slice A n c] 93)) := Bw.alloc (Bw.refl _) _
  subst hr
  obtain ⟨k, hk⟩ := Int.eq_ofNat_of_zero_le (gapI_bd t x).1
  have HK := Lib.hid hk
  cases hbf : befI x t
  · by_cases hkn : k < n
    · have HE := Lib.hid (show haveB t ts x = (slotAt ts k).have_ by simp [haveB, hbf, hasB, hk, hl.out, hkn])
      obtain ⟨b, off, rfl, hb, hc⟩ := (h.keep hbx).slots (by omega)
      have q0 := (hc k hkn).1
      clear hc hk
      generalize (slotAt ts k).have_ = a0 at *
      rw [HE.out]
      cases a0
      all_goals
        go_enter Tryz.func149, Tryz.ntmps149
        go_wp2_with (first | (go_at_call 101; refine (c_l2Gap _ _ HK.out t0 t1 x0 x1 _).mono ?_; rintro e w2 ⟨rfl, rfl⟩) | (go_at_call 168; refine (c_l2Before _ _ hbf x0 x1 t0 t1 _).mono ?_; rintro e w1 ⟨rfl, rfl⟩))
        go_ret
        exact ⟨rfl, hbx⟩
    · have HE := Lib.hid (show haveB t ts x = false by simp [haveB, hbf, hasB, hk, hl.out]; intro h; omega)
      clear hk
      rw [HE.out]
      go_enter Tryz.func149, Tryz.ntmps149
      go_wp2_with (first | (go_at_call 101; refine (c_l2Gap _ _ HK.out t0 t1 x0 x1 _).mono ?_; rintro e w2 ⟨rfl, rfl⟩) | (go_at_call 168; refine (c_l2Before _ _ hbf x0 x1 t0 t1 _).mono ?_; rintro e w1 ⟨rfl, rfl⟩))
      go_ret
      exact ⟨rfl, hbx⟩
  · have HE := Lib.hid (show haveB t ts x = true by simp [haveB, hbf])
    clear hk
    rw [HE.out]
    go_enter Tryz.func149, Tryz.ntmps149
    go_wp2_with (first | (go_at_call 101; refine (c_l2Gap _ _ HK.out t0 t1 x0 x1 _).mono ?_; rintro e w2 ⟨rfl, rfl⟩) | (go_at_call 168; refine (c_l2Before _ _ hbf x0 x1 t0 t1 _).mono ?_; rintro e w1 ⟨rfl, rfl⟩))
    go_ret
    exact ⟨rfl, hbx⟩
def haveC (t : Int) (ts : List Slot) (x : Int) : Bool := rwB t ts && inR x 0 65535
def haveR (t : Int) (ts : List Slot) (x : Int) : Bool := haveC t ts x && haveB t ts x
end Go.Proofs.YtpjljbhodnlhmaaGreatDoor
