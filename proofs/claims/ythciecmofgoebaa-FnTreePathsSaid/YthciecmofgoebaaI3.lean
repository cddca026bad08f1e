
/- The library's Reverse at a row of ints. -/
import Derived.Test.YthciecmofgoebaaI2
namespace Go.Proofs.Ythciecmofgoebaa
open Go.RowKit
def revTo (ts xs : List Int) (n k : Nat) : Prop := xs.length = n ∧ ∀ j, j < n → intAt xs j = if j < k ∨ n ≤ j + k then intAt ts (n - 1 - j) else intAt ts j
theorem intAt_set (xs : List Int) (k j : Nat) (x : Int) (hk : k < xs.length) : intAt (xs.set k x) j = if j = k then x else intAt xs j := by
  unfold intAt
  by_cases h : j = k
  · subst h; simp [hk]
  · rw [if_neg h]; simp [List.getElem?_set_ne (Ne.symm h)]
theorem revTo.zero {ts : List Int} {n : Nat} (h : ts.length = n) : revTo ts ts n 0 := by
  refine ⟨h, fun j hj => ?_⟩
  rw [if_neg (by omega)]
theorem revTo.step {ts xs : List Int} {n k m : Nat} (h : revTo ts xs n k) (hm : m + k + 1 = n) (hk : k < m) : revTo ts ((xs.set k (intAt xs m)).set m (intAt xs k)) n (k + 1) := by
  obtain ⟨hl, hx⟩ := h
  refine ⟨by simp [hl], fun j hj => ?_⟩
  rw [intAt_set _ _ _ _ (by simp [hl]; omega), intAt_set _ _ _ _ (by omega)]
  have h1 := hx k (by omega)
  have h2 := hx m (by omega)
  have h3 := hx j hj
  rw [if_neg (by omega)] at h1 h2
  by_cases e1 : j = m
  · subst e1
    rw [if_pos rfl, if_pos (by omega), h1]
    congr 1; omega
  · rw [if_neg e1]
    by_cases e2 : j = k
    · subst e2
      rw [if_pos rfl, if_pos (by omega), h2]
      congr 1; omega
    · rw [if_neg e2, h3]
      by_cases e3 : j < k ∨ n ≤ j + k
      · rw [if_pos e3, if_pos (by omega)]
      · rw [if_neg e3, if_neg (by omega)]
theorem revTo.done {ts xs : List Int} {n k : Nat} (hn : ts.length = n) (h : revTo ts xs n k) (hk : n ≤ k + k + 1) : xs = ts.reverse := by
  obtain ⟨hl, hx⟩ := h
  refine List.ext_getElem (by simp [hl, hn]) (fun j h1 h2 => ?_)
  have h3 := hx j (by omega)
  rw [intAt_lt h1] at h3
  rw [h3, List.getElem_reverse]
  by_cases e : j < k ∨ n ≤ j + k
  · rw [if_pos e, intAt_lt (by omega)]
    congr 1; omega
  · rw [if_neg e, intAt_lt (by omega)]
    congr 1; omega
theorem c_Reverse (A : Option Addr) (n c : Nat) (ts : List Int) (lo : Nat) (w : World) (hm : n ≤ 1000000) (hrw : Row w lo 3 1 icell A n c ts) :
    Calls Try.prog 37 #[.slice A n c] w fun e w' => e = .returned (.tuple #[]) ∧ Row w' lo 3 1 icell A n c ts.reverse ∧ w.grownBy w' (Value.ownBlock (.slice A n c)) := by
  have hlen := hrw.len
  have HL := Lib.hid hlen
  clear hlen
  go_enter Try.func37, Try.ntmps37
  go_wp2
  go_loopw [2, 3] (fun iv jv wr => ∃ (k : Nat) (xs : List Int), k ≤ n ∧ iv = .int .i64 k ∧ jv = .int .i64 ((n : Int) - 1 - k) ∧ revTo ts xs n k ∧ Row wr lo 3 1 icell A n c xs ∧ w.grownBy wr (Value.ownBlock (.slice A n c))) (fun iv jv _ => (intOf jv - intOf iv + 1).toNat)
  case atStart => exact ⟨0, ts, Nat.zero_le _, rfl, by simp, revTo.zero HL.out, hrw, World.grownBy.refl _ _⟩
  case round =>
    obtain ⟨k, xs, hk, rfl, rfl, hrv, hrow, hg⟩ := hrel
    have HR := Lib.hid hrv
    clear hrv
    by_cases hlt : k + k + 1 < n
    · obtain ⟨m, hm2⟩ : ∃ m : Nat, m + k + 1 = n := ⟨n - 1 - k, by omega⟩
      have e1 : (n : Int) - 1 - k = (m : Int) := by omega
      rw [e1]
      obtain ⟨g, rfl, hlo, hgl, hfz, hcc⟩ := hrow.ints (by omega)
      have q0 := hcc k (by omega)
      have q1 := hcc m (by omega)
      have hkm : k < m := by omega
      clear hcc e1
      go_wp2_with fail
      go_region
      go_wp2
      go_roundw
      case rel =>
        have s1 := (show Row wr.drew lo 3 1 icell (some ⟨g, 0, none⟩) n c xs from ⟨hrow.own.drew, hrow.len⟩).set1 (k := k) (t := intAt xs m) (fun _ => rfl) (by omega) rfl
        have s2 := s1.1.set1 (k := m) (t := intAt xs k) (fun _ => rfl) (by omega) rfl
        have hgd : wr.grownBy wr.drew (some g) := ((Bw.drew (Bw.refl wr)).toGrown).weaken
        exact ⟨k + 1, _, by omega, by go_num, by congr 1; omega, HR.out.step hm2 hkm, s2.1, hg.trans (hgd.trans (s1.2.trans s2.2))⟩
      case measure => simp [intOf]; omega
    · have e2 : ¬ (k : Int) < (n : Int) - 1 - k := by omega
      have HD := Lib.hid (HR.out.done HL.out (by omega))
      go_wp2
      go_end0
      rw [← HD.out]
      exact ⟨rfl, hrow, hg⟩
end Go.Proofs.Ythciecmofgoebaa
