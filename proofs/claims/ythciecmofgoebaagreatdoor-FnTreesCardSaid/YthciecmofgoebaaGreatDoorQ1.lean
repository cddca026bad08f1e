
/- Numerals: what their digits say (plain). -/
import Derived.Test.YthciecmofgoebaaGreatDoorW1
import Derived.Lib.AtoiTie
namespace Go.Proofs.YthciecmofgoebaaGreatDoor
open Go.Lib
theorem digitOf (d : Nat) (h : d < 10) : digitVal (UInt8.ofNat (48 + d)) = some d := by
  rcases (show d = 0 ∨ d = 1 ∨ d = 2 ∨ d = 3 ∨ d = 4 ∨ d = 5 ∨ d = 6 ∨ d = 7 ∨ d = 8 ∨ d = 9 by omega) with rfl | rfl | rfl | rfl | rfl | rfl | rfl | rfl | rfl | rfl <;> rfl
theorem decFrom_app : ∀ (a b : List UInt8) (acc : Nat), decFrom acc (a ++ b) = (decFrom acc a).bind fun m => decFrom m b
  | [], b, acc => rfl
  | c :: a, b, acc => by
    simp only [List.cons_append, decFrom]
    cases digitVal c with
    | none => rfl
    | some d => exact decFrom_app a b _
theorem decFrom_digits (u : Nat) : decFrom 0 (decDigits u) = some u := by
  induction u using Nat.strongRecOn with
  | ind u ih =>
    rw [decDigits]
    split
    · rename_i h
      simp only [decFrom, digitOf u h, Nat.zero_mul, Nat.zero_add]
    · rename_i h
      rw [decFrom_app, ih (u / 10) (by omega)]
      simp only [Option.bind_some, decFrom, digitOf (u % 10) (by omega)]
      congr 1
      omega
theorem decDigits_ne (u : Nat) : 1 ≤ (decDigits u).length := by
  rw [decDigits]; split <;> simp
theorem decDigits_le : ∀ (k u : Nat), u < 10 ^ (k + 1) → (decDigits u).length ≤ k + 1
  | 0, u, h => by rw [decDigits, dif_pos (by simpa using h)]; simp
  | k + 1, u, h => by
    rw [decDigits]
    split
    · simp
    · have := decDigits_le k (u / 10) (Nat.div_lt_of_lt_mul (by rw [Nat.pow_succ, Nat.mul_comm] at h; exact h))
      simp; omega
/-- The numeral of an int. -/
def numZ (v : Int) : ByteArray := ⟨(itoa v).toArray⟩
theorem numZ_list (v : Int) : (numZ v).data.toList = itoa v := rfl
theorem itoa_head {u : Nat} {c : UInt8} {r : List UInt8} (h : decDigits u = c :: r) : 48 ≤ c.toNat ∧ c.toNat ≤ 57 := by
  have h1 := decFrom_digits u
  obtain ⟨d, hd⟩ := digit_of_decFrom _ _ _ h1 0 c (by rw [h]; rfl)
  have := digitVal_eq hd
  omega
theorem decNat_digits (u : Nat) : decNat (decDigits u) = some u := by
  have := decDigits_ne u
  have h1 := decFrom_digits u
  unfold decNat
  cases h : decDigits u with
  | nil => rw [h] at this; simp at this
  | cons c r => rw [h] at h1; simpa using h1
theorem atoi_itoa (v : Int) : atoi (itoa v) = some v := by
  unfold itoa
  split
  · rename_i h
    simp only [atoi, beq_self_eq_true, if_true, decNat_digits, Option.map_some]
    congr 1
    omega
  · rename_i h
    cases hd : decDigits v.toNat with
    | nil => have := decDigits_ne v.toNat; rw [hd] at this; simp at this
    | cons c r =>
      have hc := itoa_head hd
      have n := decNat_digits v.toNat
      rw [hd] at n
      have e1 : (c == 45) = false := by
        rw [beq_eq_false_iff_ne]; rintro rfl; simp at hc
      have e2 : (c == 43) = false := by
        rw [beq_eq_false_iff_ne]; rintro rfl; simp at hc
      simp only [atoi, e1, e2, n, Option.map_some]
      simp
      omega
/-- The text is the numeral of a number of at most six digits. -/
def IsNum (s : ByteArray) (v : Int) : Prop := -999999 ≤ v ∧ v ≤ 999999 ∧ numZ v = s
theorem IsNum.len {s : ByteArray} {v : Int} (h : IsNum s v) : s.data.toList.length ≤ 18 := by
  obtain ⟨h1, h2, rfl⟩ := h
  rw [numZ_list]
  unfold itoa
  split
  · have := decDigits_le 5 v.natAbs (by simp; omega)
    simp; omega
  · have := decDigits_le 5 v.toNat (by simp; omega)
    omega
theorem IsNum.all {s : ByteArray} {v : Int} (h : IsNum s v) : atoiAll s.data.toList = .ok v := by
  rw [atoiAll_short _ h.len]
  obtain ⟨h1, h2, rfl⟩ := h
  rw [numZ_list, atoi_itoa]; rfl
theorem IsNum.uniq {s : ByteArray} {u v : Int} (hu : IsNum s u) (hv : IsNum s v) : u = v := by
  have h := hu.all.symm.trans hv.all
  injection h
open Classical in
noncomputable def rdV (s : ByteArray) : Int := if h : ∃ v, IsNum s v then h.choose else 0
open Classical in
noncomputable def rdB (s : ByteArray) : Bool := decide (∃ v, IsNum s v)
theorem rd_yes {s : ByteArray} {v : Int} (h : IsNum s v) : rdB s = true ∧ rdV s = v := by
  have he : ∃ v, IsNum s v := ⟨v, h⟩
  refine ⟨by simp [rdB, he], ?_⟩
  rw [rdV, dif_pos he]
  exact he.choose_spec.uniq h
theorem rd_no {s : ByteArray} (h : ∀ v, ¬ IsNum s v) : rdB s = false ∧ rdV s = 0 := by
  have he : ¬ ∃ v, IsNum s v := fun ⟨v, hv⟩ => h v hv
  exact ⟨by simp [rdB, h], by rw [rdV, dif_neg he]⟩
theorem rd_spec {s : ByteArray} (h : rdB s = true) : IsNum s (rdV s) := by
  have he : ∃ v, IsNum s v := by simpa [rdB] using h
  rw [rdV, dif_pos he]
  exact he.choose_spec
/-- What stands behind the sign. -/
def tailN (s : ByteArray) : List UInt8 := if 1 < s.size ∧ s.data.toList.head? = some 45 then s.data.toList.drop 1 else s.data.toList
theorem IsNum.tail {s : ByteArray} {v : Int} (h : IsNum s v) : decFrom 0 (tailN s) = some v.natAbs ∧ 1 ≤ (tailN s).length ∧ (tailN s).length ≤ 6 ∧ ((1 < s.size ∧ s.data.toList.head? = some 45) ↔ v < 0) := by
  obtain ⟨h1, h2, rfl⟩ := h
  by_cases hv : v < 0
  · have e : itoa v = 45 :: decDigits v.natAbs := by rw [itoa, if_pos hv]
    have hl := decDigits_ne v.natAbs
    have hl6 := decDigits_le 5 v.natAbs (by simp; omega)
    have hc : 1 < (numZ v).size ∧ (numZ v).data.toList.head? = some 45 := by
      refine ⟨?_, by rw [numZ_list, e]; rfl⟩
      have : (numZ v).size = (itoa v).length := by simp [numZ, ByteArray.size]
      rw [this, e]; simp; omega
    have ht : tailN (numZ v) = decDigits v.natAbs := by rw [tailN, if_pos hc, numZ_list, e]; rfl
    rw [ht]
    exact ⟨decFrom_digits _, hl, hl6, ⟨fun _ => hv, fun _ => hc⟩⟩
  · have e : itoa v = decDigits v.toNat := by rw [itoa, if_neg hv]
    have hl := decDigits_ne v.toNat
    have hl6 := decDigits_le 5 v.toNat (by simp; omega)
    have hc : ¬ (1 < (numZ v).size ∧ (numZ v).data.toList.head? = some 45) := by
      rintro ⟨_, h⟩
      rw [numZ_list, e] at h
      cases hd : decDigits v.toNat with
      | nil => rw [hd] at hl; simp at hl
      | cons c r =>
        rw [hd] at h
        have := itoa_head hd
        simp only [List.head?_cons, Option.some.injEq] at h
        subst h
        simp at this
    have ht : tailN (numZ v) = decDigits v.toNat := by rw [tailN, if_neg hc, numZ_list, e]
    rw [ht, show v.natAbs = v.toNat by omega]
    exact ⟨decFrom_digits _, hl, hl6, ⟨fun h => absurd h hc, fun h => absurd h hv⟩⟩
end Go.Proofs.YthciecmofgoebaaGreatDoor
