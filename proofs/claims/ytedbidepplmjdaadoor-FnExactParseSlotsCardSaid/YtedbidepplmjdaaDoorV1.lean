
/- Slots: a bool and a text; lists of them; the law's own helpers. -/
import Derived.Test.YtedbidepplmjdaaDoorS2
namespace Go.Proofs.YtedbidepplmjdaaDoor
open Go.RowKit Go.ChangeShapes Go.WideShapes Go.ChangeAt Go.Joins Go.Deep
structure Slot where
  have_ : Bool
  item : ByteArray
def Slot.cells (s : Slot) : List Value := [.bool s.have_, .string s.item]
def slotAt (ts : List Slot) (k : Nat) : Slot := ts.getD k ⟨false, ByteArray.empty⟩
theorem slotAt_lt {ts : List Slot} {k : Nat} (h : k < ts.length) : slotAt ts k = ts[k] := by simp [slotAt, h]
def fitL (ts : List Slot) : Prop := ∀ k, k < ts.length → (slotAt ts k).item.size ≤ maxLen
theorem Rd.slots {w : World} {A : Option Addr} {n : Nat} {ts : List Slot} (h : Rd w A n 2 (ts.map Slot.cells)) (hn : 0 < n) :
    ∃ b off, A = some ⟨b, off, none⟩ ∧ b < w.heap.size ∧ ∀ k, k < n → w.cell? ⟨b, off + k * 2, none⟩ = some (.bool (slotAt ts k).have_) ∧ w.cell? ⟨b, off + k * 2 + 1, none⟩ = some (.string (slotAt ts k).item) := by
  obtain ⟨b, off, hA, hb, hc⟩ := h.at_ hn
  refine ⟨b, off, hA, hb, fun k hk => ?_⟩
  have hl : ts.length = n := by simpa using h.len
  have hk' : k < ts.length := by omega
  have hx : (ts.map Slot.cells)[k]? = some (slotAt ts k).cells := by simp [slotAt, hk']
  exact ⟨hc k 0 _ _ hx rfl, hc k 1 _ _ hx rfl⟩
theorem Rd.slotlen {w : World} {A : Option Addr} {n : Nat} {ts : List Slot} (h : Rd w A n 2 (ts.map Slot.cells)) : ts.length = n := by simpa using h.len
theorem Row.slots {w : World} {lo : Nat} {e : TypeId} {A : Option Addr} {n c : Nat} {ts : List Slot} (h : Row w lo e 2 Slot.cells A n c ts) (hn : 0 < n) :
    ∃ g, A = some ⟨g, 0, none⟩ ∧ lo ≤ g ∧ g < w.heap.size ∧ (∀ j, w.frozen? ⟨g, j, none⟩ = false) ∧ ∀ k, k < n → w.cell? ⟨g, k * 2, none⟩ = some (.bool (slotAt ts k).have_) ∧ w.cell? ⟨g, k * 2 + 1, none⟩ = some (.string (slotAt ts k).item) := by
  obtain ⟨g, rfl, hlo, hlt⟩ := h.form hn
  obtain ⟨b, off, hA, _, hc⟩ := (h.rd (fun _ => rfl)).slots hn
  simp only [Option.some.injEq, Addr.mk.injEq, and_true] at hA
  obtain ⟨rfl, rfl⟩ := hA
  exact ⟨g, rfl, hlo, hlt, fun j => h.frozen j, fun k hk => by simpa using hc k hk⟩
theorem infoSlot : (Tryd.prog.info? 48).map (fun i => (i.zero, i.size, i.bytes)) = some (some (.agg #[.bool false, .string ByteArray.empty]), 2, 24) := by kernel_rfl
theorem trod_two {H : Type} {enc : TypeId × Value → H} {P : Program} {w : World} {t : TypeId} {f0 f1 : Field} {n : Nat} {cs : List Value} {x : DataW H × List MemPlace} {base : Nat} {spare : Nat → Bool} {held : Bool} (ht : P.underlying t = some (.struct #[f0, f1])) (hone : oneCellFields P #[f0, f1] = true) (hC : P.cellsOf t = 2) (h : DataW.trod enc P w base spare held n t cs = some x) :
    ∃ (a b : Value) (y0 y1 : DataW H × List MemPlace) (m : Nat), cs = [a, b] ∧ DataW.trod enc P w base spare held m f0.type [a] = some y0 ∧ DataW.trod enc P w base spare held m f1.type [b] = some y1 := by
  obtain ⟨y0, y1, n, _, hl, h0, h1⟩ := trod_struct2 ht h
  rw [hC] at hl
  obtain ⟨o0, k0⟩ := hone_of hone 0 f0 rfl
  obtain ⟨o1, k1⟩ := hone_of hone 1 f1 rfl
  match cs, hl with
  | [a, b], _ => exact ⟨a, b, y0, y1, n, rfl, by simpa [o0, k0] using h0, by simpa [o1, k1] using h1⟩
theorem trod_slot {H : Type} {enc : TypeId × Value → H} {w : World} {n : Nat} {cs : List Value} {x : DataW H × List MemPlace} {base : Nat} {spare : Nat → Bool} {held : Bool} (h : DataW.trod enc Tryd.prog w base spare held n 54 cs = some x) :
    ∃ t : { s : Slot // s.item.size ≤ maxLen }, cs = t.1.cells := by
  obtain ⟨a, b, y0, y1, m, rfl, h0, h1⟩ := trod_two Tryd.underlying54 (by kernel_rfl) (by kernel_rfl) h
  obtain ⟨v, hv, _⟩ := DataW.trod_bool Tryd.underlying4 h0
  obtain ⟨s, hs, _, hz⟩ := DataW.trod_string Tryd.underlying9 h1
  simp only [List.cons.injEq, and_true] at hv hs
  subst hv hs
  exact ⟨⟨⟨v, s⟩, hz⟩, rfl⟩
set_option maxRecDepth 100000 in
theorem open_rw {H : Type} {enc : TypeId × Value → H} {w : World} {v : Value} {d : DataW H} {p : List MemPlace} (hv : Value.okWide Tryd.prog w .any 0 24 v) (h : DataW.Trod enc Tryd.prog w 0 (fun _ => true) true 24 v d p) :
    ∃ (t : Int) (A : Option Addr) (n c : Nat) (ts : List Slot), v = .agg #[.int .i64 t, .slice A n c] ∧ n ≤ c ∧ c ≤ maxLen ∧ fitL ts ∧ Rd w A n 2 (ts.map Slot.cells) := by
  obtain ⟨c0, c1, y0, y1, m, rfl, _, _, hy0, hy1⟩ := open_agg2 Tryd.underlying24 (by kernel_rfl) (by kernel_rfl) hv h
  obtain ⟨t, ht, _⟩ := DataW.trod_int Tryd.underlying3 hy0
  obtain ⟨A, n, c, ts, rfl, h1, h2, h3⟩ := trod_rd (sz := 2) (T := { s : Slot // s.item.size ≤ maxLen }) (fun t => t.1.cells) Tryd.underlying22 (by kernel_rfl) (by omega) (fun n cs x hx => trod_slot hx) hy1
  simp only [List.cons.injEq, and_true] at ht
  subst ht
  refine ⟨t, A, n, c, ts.map (·.1), rfl, h1, h2, fun k hk => ?_, by simpa [List.map_map, Function.comp_def] using h3⟩
  rw [slotAt_lt hk]
  simp only [List.getElem_map]
  exact (ts[k]'(by simpa using hk)).2
theorem c_toSlot (a : Bool) (d : ByteArray) (w : World) : Calls Tryd.prog 32 #[.agg #[.bool a, .string d]] w fun e w' => e = .returned (.agg #[.bool a, .string d]) ∧ Bw w w' := by
  go_enter Tryd.func32, Tryd.ntmps32
  go_wp2
  exact bodyPost_ret (v := .agg #[.bool a, .string d]) (by simp [results, Tryd.results32, go_sem]) rfl ⟨rfl, by (repeat (first | with_reducible assumption | exact Bw.refl _ | (with_reducible refine Bw.setCell ?_ (by simp) _) | (with_reducible refine Bw.alloc ?_ _) | (with_reducible refine Bw.drew ?_) | (with_reducible refine Bw.drewN ?_ _)))⟩
theorem c_eqSlot (a : Bool) (d : ByteArray) (w : World) : Calls Tryd.prog 38 #[.agg #[.bool a, .string d], .agg #[.bool a, .string d]] w fun e w' => e = .returned (.bool true) ∧ Bw w w' := by
  go_enter Tryd.func38, Tryd.ntmps38
  go_wp2
  go_ret
  exact ⟨rfl, by (repeat (first | with_reducible assumption | exact Bw.refl _ | (with_reducible refine Bw.setCell ?_ (by simp) _) | (with_reducible refine Bw.alloc ?_ _) | (with_reducible refine Bw.drew ?_) | (with_reducible refine Bw.drewN ?_ _)))⟩
theorem c_szSlot (a : Bool) (d : ByteArray) (L : Int) (hd : d.size ≤ maxLen) (h0 : 0 ≤ L) (h1 : L ≤ 1048576) (w : World) : Calls Tryd.prog 28 #[.agg #[.bool a, .string d], .int .i64 L] w fun e w' => (∃ m : Int, e = .returned (.int .i64 m) ∧ -1 ≤ m ∧ m ≤ 1048576) ∧ Bw w w' := by
  unfold maxLen at hd
  go_enter Tryd.func28, Tryd.ntmps28
  go_wp2
  all_goals
    go_ret
    exact ⟨⟨_, rfl, by omega, by omega⟩, by (repeat (first | with_reducible assumption | exact Bw.refl _ | (with_reducible refine Bw.setCell ?_ (by simp) _) | (with_reducible refine Bw.alloc ?_ _) | (with_reducible refine Bw.drew ?_) | (with_reducible refine Bw.drewN ?_ _)))⟩
theorem c_szSlotS (A : Option Addr) (n c : Nat) (ts : List Slot) (w : World) (hm : n ≤ 9223372036854775807) (hf : fitL ts) (h : Rd w A n 2 (ts.map Slot.cells)) :
    Calls Tryd.prog 14 #[.slice A n c, .int .i64 1048576] w fun e w' => (∃ m : Int, e = .returned (.int .i64 m) ∧ m ≤ 1048576 ∧ (m < 0 ∨ n ≤ 1048576)) ∧ Bw w w' := by
  have hl := Lib.hid h.slotlen
  have HF := Lib.hid hf
  clear hf
  go_enter Tryd.func14, Tryd.ntmps14
  by_cases hN : n ≤ 1048576
  · go_wp2
    go_loopw [1, 5] (fun lv i wr => ∃ (k : Nat) (L : Int), k ≤ n ∧ i = .int .i64 k ∧ lv = .int .i64 L ∧ 0 ≤ L ∧ L ≤ 1048576 ∧ Bw w wr) (fun _ i _ => n - (intOf i).toNat)
    case atStart => exact ⟨0, _, Nat.zero_le _, rfl, rfl, by omega, by omega, Bw.refl _⟩
    case round =>
      obtain ⟨k, L, hk, rfl, rfl, hL0, hL1, hbl⟩ := hrel
      by_cases hlt : k < n
      · obtain ⟨b, off, rfl, hb, hc⟩ := (h.keep hbl).slots (by omega)
        have ⟨h0, h1⟩ := hc k hlt
        have hfk := HF.out k (by rw [hl.out]; exact hlt)
        clear hc
        generalize slotAt ts k = s at *
        have HFK := Lib.hid hfk
        clear hfk
        go_wp2_with (go_at_call 28; refine (c_szSlot _ _ L HFK.out hL0 hL1 _).mono ?_; rintro e w1 ⟨⟨m, rfl, hm0, hm1⟩, hb1⟩)
        · go_ret
          (first | exact ⟨⟨_, rfl, by omega, by omega⟩, hbl.trans hb1⟩ | exact ⟨⟨_, rfl, by omega⟩, hbl.trans hb1⟩)
        · go_roundw
          case rel => exact ⟨k + 1, _, by omega, by go_num, rfl, by omega, by omega, hbl.trans hb1⟩
          case measure => simp [intOf]; omega
      · go_wp2
        go_ret
        (first | exact ⟨⟨_, rfl, by omega, by omega⟩, hbl⟩ | exact ⟨⟨_, rfl, by omega⟩, hbl⟩)
  · go_wp2
    go_ret
    (first | exact ⟨⟨_, rfl, by omega, by omega⟩, Bw.refl _⟩ | exact ⟨⟨_, rfl, by omega⟩, Bw.refl _⟩)
end Go.Proofs.YtedbidepplmjdaaDoor
