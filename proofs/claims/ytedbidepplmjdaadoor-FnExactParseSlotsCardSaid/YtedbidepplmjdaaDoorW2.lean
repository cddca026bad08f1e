
/- The text of a receive window: both sides. -/
import Derived.Test.YtedbidepplmjdaaDoorW1
import Derived.Test.YtedbidepplmjdaaDoorV4
namespace Go.Proofs.YtedbidepplmjdaaDoor
open Go.RowKit
def slotS (acc : ByteArray) (s : Slot) : ByteArray := if s.have_ = true then (if s.item.toList = [] then acc ++ ⟨#[32, 46]⟩ else acc ++ (⟨#[32]⟩ ++ s.item)) else acc ++ ⟨#[32, 63]⟩
def slotsT (u : Nat) (ts : List Slot) : ByteArray := ts.foldl slotS (numT u ++ ⟨#[58]⟩)
theorem slotsT_succ (u : Nat) (ts : List Slot) (k : Nat) (hk : k < ts.length) : slotsT u (ts.take (k + 1)) = slotS (slotsT u (ts.take k)) (slotAt ts k) := by
  rw [slotAt_lt hk, slotsT, List.take_succ_eq_append_getElem hk, List.foldl_append]; rfl
theorem slotS_size (acc : ByteArray) (s : Slot) : (slotS acc s).size ≤ acc.size + s.item.size + 2 := by
  unfold slotS; split
  · split
    · simp only [ByteArray.size_append]; have : (⟨#[32, 46]⟩ : ByteArray).size = 2 := rfl; omega
    · simp only [ByteArray.size_append]; have : (⟨#[32]⟩ : ByteArray).size = 1 := rfl; omega
  · simp only [ByteArray.size_append]; have : (⟨#[32, 63]⟩ : ByteArray).size = 2 := rfl; omega
theorem slotsT_size (u : Nat) (hu : u ≤ 65535) (ts : List Slot) (hi : ∀ k, k < ts.length → (slotAt ts k).item.size ≤ 100) (k : Nat) (hk : k ≤ ts.length) : (slotsT u (ts.take k)).size ≤ 65537 + 102 * k := by
  induction k with
  | zero =>
    have := numT_size u
    have h1 : (⟨#[58]⟩ : ByteArray).size = 1 := rfl
    simp only [slotsT, List.take_zero, List.foldl_nil, ByteArray.size_append]
    omega
  | succ k ih =>
    rw [slotsT_succ u ts k (by omega)]
    have := slotS_size (slotsT u (ts.take k)) (slotAt ts k)
    have := ih (by omega)
    have := hi k (by omega)
    omega
set_option maxRecDepth 100000 in
theorem c_l10Text (u : Nat) (hu : u ≤ 65535) (A : Option Addr) (n c : Nat) (ts : List Slot) (hi : ∀ k, k < ts.length → (slotAt ts k).item.size ≤ 100) (w : World) (hm : n ≤ 100) (h : Rd w A n 2 (ts.map Slot.cells)) :
    Calls Tryd.prog 16 #[.agg #[.int .i64 u, .slice A n c]] w fun e w' => e = .returned (.string (slotsT u ts)) ∧ Bw w w' := by
  have hl := Lib.hid h.slotlen
  have HI := Lib.hid hi
  have hbx := (Bw.refl w).alloc (.cells #[.int .i64 (u : Int), .slice A n c] 30)
  have hz := numT_size u
  have z1 : (⟨#[58]⟩ : ByteArray).size = 1 := rfl
  have r0 := fun (W : World) => run_string_add (P := Tryd.prog) W (numT u) ⟨#[58]⟩ (by omega) (by omega)
  clear hi hz z1
  go_enter Tryd.func16, Tryd.ntmps16
  go_wp2_with (go_at_call 31; refine (c_l1Num u (by omega) _).mono ?_; rintro e w1 ⟨rfl, hb1⟩)
  clear r0
  go_loopw [3, 4] (fun v i wr => ∃ k : Nat, k ≤ n ∧ i = .int .i64 k ∧ v = .string (slotsT u (ts.take k)) ∧ Bw (w.alloc (.cells #[.int .i64 (u : Int), .slice A n c] 30)) wr) (fun _ i _ => n - (intOf i).toNat)
  case atStart => exact ⟨0, Nat.zero_le _, rfl, by simp [slotsT], hb1⟩
  case round =>
    obtain ⟨k, hk, rfl, rfl, hbl⟩ := hrel
    have b0 := hbl.cellv (p := ⟨w.heap.size, 0, none⟩) (v := .int .i64 (u : Int)) (by go_simp)
    have b1 := hbl.cellv (p := ⟨w.heap.size, 1, none⟩) (v := .slice A n c) (by go_simp)
    by_cases hlt : k < n
    · obtain ⟨b, off, rfl, hb, hc⟩ := (h.keep (hbx.trans hbl)).slots (by omega)
      have ⟨q0, q1⟩ := hc k hlt
      clear hc
      have HS := Lib.hid (slotsT_succ u ts k (by rw [hl.out]; exact hlt))
      have hz := slotsT_size u hu ts HI.out k (by rw [hl.out]; omega)
      have hz2 := HI.out k (by rw [hl.out]; exact hlt)
      generalize slotsT u (ts.take k) = acc at *
      generalize slotAt ts k = s at *
      obtain ⟨hv, d⟩ := s
      dsimp only at q0 q1 hz2
      have z1 : (⟨#[32]⟩ : ByteArray).size = 1 := rfl
      have z2 : (⟨#[32, 46]⟩ : ByteArray).size = 2 := rfl
      have z3 : (⟨#[32, 63]⟩ : ByteArray).size = 2 := rfl
      have r1 := fun (W : World) => run_string_add (P := Tryd.prog) W acc ⟨#[32, 63]⟩ (by omega) (by omega)
      have r2 := fun (W : World) => run_string_add (P := Tryd.prog) W acc ⟨#[32, 46]⟩ (by omega) (by omega)
      have r3 := fun (W : World) => run_string_add (P := Tryd.prog) W ⟨#[32]⟩ d (by omega) (by omega)
      have r4 := fun (W : World) => run_string_add (P := Tryd.prog) W acc (⟨#[32]⟩ ++ d) (by omega) (by simp only [ByteArray.size_append]; omega)
      have r5 := fun (W : World) => run_string_add (P := Tryd.prog) W acc ⟨#[32]⟩ (by omega) (by omega)
      have r6 := fun (W : World) => run_string_add (P := Tryd.prog) W (acc ++ ⟨#[32]⟩) d (by simp only [ByteArray.size_append]; omega) (by omega)
      clear z1 z2 z3 hz hz2
      cases hv
      · have HT := Lib.hid (show slotS acc ⟨false, d⟩ = acc ++ ⟨#[32, 63]⟩ by simp [slotS])
        go_wp2
        go_roundw
        case rel => exact ⟨k + 1, by omega, by go_num, by rw [HS.out, HT.out], hbl⟩
        case measure => simp [intOf]; omega
      · by_cases hd : d.toList = []
        · have HT := Lib.hid (show slotS acc ⟨true, d⟩ = acc ++ ⟨#[32, 46]⟩ by simp [slotS, hd])
          have hd2 : d.toList.isEmpty = true := by simp [hd]
          go_wp2
          go_roundw
          case rel => exact ⟨k + 1, by omega, by go_num, by rw [HS.out, HT.out], hbl⟩
          case measure => simp [intOf]; omega
        · have HT := Lib.hid (show slotS acc ⟨true, d⟩ = acc ++ (⟨#[32]⟩ ++ d) by simp [slotS, hd])
          have hd2 : d.toList.isEmpty = false := by simpa using hd
          go_wp2
          go_roundw
          case rel => exact ⟨k + 1, by omega, by go_num, by first | (rw [HS.out, HT.out]; done) | (rw [HS.out, HT.out, ByteArray.append_assoc]), hbl⟩
          case measure => simp [intOf]; omega
    · go_wp2
      go_ret
      obtain rfl : k = n := by omega
      have e : ts.take k = ts := by rw [List.take_of_length_le (by rw [hl.out]; omega)]
      rw [e]
      exact ⟨rfl, hbx.trans hbl⟩
set_option maxRecDepth 100000 in
theorem c_slotsText (u : Nat) (hu : u ≤ 65535) (A : Option Addr) (n c : Nat) (ts : List Slot) (hi : ∀ k, k < ts.length → (slotAt ts k).item.size ≤ 100) (w : World) (ht : Tab10 w) (hm : n ≤ 100) (h : Rd w A n 2 (ts.map Slot.cells)) :
    Calls Tryd.prog 19 #[.agg #[.int .i64 u, .slice A n c]] w fun e w' => e = .returned (.string (slotsT u ts)) ∧ Bw w w' := by
  have hl := Lib.hid h.slotlen
  have HI := Lib.hid hi
  have hbx := (Bw.refl w).alloc (.cells #[.int .i64 (u : Int), .slice A n c] 30)
  have hz := numT_size u
  have z1 : (⟨#[58]⟩ : ByteArray).size = 1 := rfl
  have r0 := fun (W : World) => run_string_add (P := Tryd.prog) W (numT u) ⟨#[58]⟩ (by omega) (by omega)
  clear hi hz z1
  go_enter Tryd.func19, Tryd.ntmps19
  go_wp2_with (go_at_call 37; refine (c_Itoa u (by omega) _ (ht.keep hbx)).mono ?_; rintro e w1 ⟨rfl, hb1⟩; have e1 := hb1.cellv (p := ⟨w.heap.size, 1, none⟩) (v := .slice A n c) (by go_simp))
  clear r0
  go_loopw [3, 13] (fun v i wr => ∃ k : Nat, k ≤ n ∧ i = .int .i64 k ∧ v = .string (slotsT u (ts.take k)) ∧ Bw (w.alloc (.cells #[.int .i64 (u : Int), .slice A n c] 30)) wr) (fun _ i _ => n - (intOf i).toNat)
  case atStart => exact ⟨0, Nat.zero_le _, rfl, by simp [slotsT], hb1⟩
  case round =>
    obtain ⟨k, hk, rfl, rfl, hbl⟩ := hrel
    have b0 := hbl.cellv (p := ⟨w.heap.size, 0, none⟩) (v := .int .i64 (u : Int)) (by go_simp)
    have b1 := hbl.cellv (p := ⟨w.heap.size, 1, none⟩) (v := .slice A n c) (by go_simp)
    by_cases hlt : k < n
    · obtain ⟨b, off, rfl, hb, hc⟩ := (h.keep (hbx.trans hbl)).slots (by omega)
      have ⟨q0, q1⟩ := hc k hlt
      clear hc
      have HS := Lib.hid (slotsT_succ u ts k (by rw [hl.out]; exact hlt))
      have hz := slotsT_size u hu ts HI.out k (by rw [hl.out]; omega)
      have hz2 := HI.out k (by rw [hl.out]; exact hlt)
      generalize slotsT u (ts.take k) = acc at *
      generalize slotAt ts k = s at *
      obtain ⟨hv, d⟩ := s
      dsimp only at q0 q1 hz2
      have z1 : (⟨#[32]⟩ : ByteArray).size = 1 := rfl
      have z2 : (⟨#[32, 46]⟩ : ByteArray).size = 2 := rfl
      have z3 : (⟨#[32, 63]⟩ : ByteArray).size = 2 := rfl
      have r1 := fun (W : World) => run_string_add (P := Tryd.prog) W acc ⟨#[32, 63]⟩ (by omega) (by omega)
      have r2 := fun (W : World) => run_string_add (P := Tryd.prog) W acc ⟨#[32, 46]⟩ (by omega) (by omega)
      have r3 := fun (W : World) => run_string_add (P := Tryd.prog) W ⟨#[32]⟩ d (by omega) (by omega)
      have r4 := fun (W : World) => run_string_add (P := Tryd.prog) W acc (⟨#[32]⟩ ++ d) (by omega) (by simp only [ByteArray.size_append]; omega)
      have r5 := fun (W : World) => run_string_add (P := Tryd.prog) W acc ⟨#[32]⟩ (by omega) (by omega)
      have r6 := fun (W : World) => run_string_add (P := Tryd.prog) W (acc ++ ⟨#[32]⟩) d (by simp only [ByteArray.size_append]; omega) (by omega)
      clear z1 z2 z3 hz hz2
      cases hv
      · have HT := Lib.hid (show slotS acc ⟨false, d⟩ = acc ++ ⟨#[32, 63]⟩ by simp [slotS])
        go_wp2
        go_roundw
        case rel => exact ⟨k + 1, by omega, by go_num, by rw [HS.out, HT.out], hbl.alloc _⟩
        case measure => simp [intOf]; omega
      · by_cases hd : d.toList = []
        · have HT := Lib.hid (show slotS acc ⟨true, d⟩ = acc ++ ⟨#[32, 46]⟩ by simp [slotS, hd])
          have hd2 : d.toList.isEmpty = true := by simp [hd]
          go_wp2
          go_roundw
          case rel => exact ⟨k + 1, by omega, by go_num, by rw [HS.out, HT.out], hbl.alloc _⟩
          case measure => simp [intOf]; omega
        · have HT := Lib.hid (show slotS acc ⟨true, d⟩ = acc ++ (⟨#[32]⟩ ++ d) by simp [slotS, hd])
          have hd2 : d.toList.isEmpty = false := by simpa using hd
          go_wp2
          go_roundw
          case rel => exact ⟨k + 1, by omega, by go_num, by first | (rw [HS.out, HT.out]; done) | (rw [HS.out, HT.out, ByteArray.append_assoc]), hbl.alloc _⟩
          case measure => simp [intOf]; omega
    · go_wp2
      go_ret
      obtain rfl : k = n := by omega
      have e : ts.take k = ts := by rw [List.take_of_length_le (by rw [hl.out]; omega)]
      rw [e]
      exact ⟨rfl, hbx.trans hbl⟩
end Go.Proofs.YtedbidepplmjdaaDoor
