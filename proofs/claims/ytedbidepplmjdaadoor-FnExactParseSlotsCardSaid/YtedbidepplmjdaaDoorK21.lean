
/- The law's marks of texts, to the letter. -/
import Derived.Test.YtedbidepplmjdaaDoorS7
namespace Go.Proofs.YtedbidepplmjdaaDoor
open Go.RowKit
def mdig (k : Nat) (s : ByteArray) : ByteArray := if _h : 0 < k then mdig (k / 10) (strOfNums [48 + (k : Int) % 10] ++ s) else s
  termination_by k
def mtext (k : Int) : ByteArray := if k ≤ 0 then ⟨#[109, 48]⟩ else ⟨#[109]⟩ ++ mdig k.toNat ByteArray.empty
set_option maxRecDepth 100000 in
theorem c_markTextE (k0 : Int) (h0 : 0 ≤ k0) (h1 : k0 ≤ 1000000000) (w : World) :
    Calls Tryd.prog 44 #[.int .i64 k0] w fun e w' => e = .returned (.string (mtext k0)) ∧ Bw w w' := by
  by_cases hz : k0 ≤ 0
  · have HE := Lib.hid (show mtext k0 = ⟨#[109, 48]⟩ by rw [mtext, if_pos hz])
    rw [HE.out]
    go_enter Tryd.func44, Tryd.ntmps44
    go_wp2
    go_ret
    exact ⟨rfl, Bw.refl _⟩
  · have HE := Lib.hid (show mtext k0 = ⟨#[109]⟩ ++ mdig k0.toNat ByteArray.empty by rw [mtext, if_neg hz])
    rw [HE.out]
    generalize hD : mdig k0.toNat ByteArray.empty = D
    go_enter Tryd.func44, Tryd.ntmps44
    go_wp2
    go_loopw [0, 3] (fun kv v wr => ∃ (k : Int) (s : ByteArray), kv = .int .i64 k ∧ v = .string s ∧ 0 ≤ k ∧ (s.size : Int) + k ≤ 1000000000 ∧ mdig k.toNat s = D ∧ Bw w wr) (fun kv _ _ => (intOf kv).toNat)
    case atStart => exact ⟨k0, ByteArray.empty, rfl, rfl, h0, by simpa using h1, hD, Bw.refl _⟩
    case round =>
      obtain ⟨k, s, rfl, rfl, hk0, hs, hd0, hbl⟩ := hrel
      by_cases hk : 0 < k
      · have hr : 0 ≤ k % 10 ∧ k % 10 ≤ 9 := by omega
        have hq : k.tmod 10 = k % 10 := Int.tmod_eq_emod_of_nonneg hk0
        have hd : k.tdiv 10 = k / 10 := Int.tdiv_eq_ediv_of_nonneg hk0
        have hcl : ∀ i, i < 1 → (wr.alloc (.cells #[.int .u8 (48 + k % 10)] 5)).cell? ⟨wr.heap.size, 0 + i, none⟩ = some (.int .u8 ([48 + k % 10].getD i 0)) := fun i hi => by
          obtain rfl : i = 0 := by omega
          simp
        have hconv : (convert 73 9 (.slice (some ⟨wr.heap.size, 0, none⟩) 1 1)).run Tryd.prog (wr.alloc (.cells #[.int .u8 (48 + k % 10)] 5)) = .ok (.string (strOfNums [48 + k % 10])) (wr.alloc (.cells #[.int .u8 (48 + k % 10)] 5)) :=
          run_convert_bytes_arg _ 73 5 Tryd.underlying73 Tryd.underlying5 wr.heap.size 0 1 1 [48 + k % 10] rfl (hcl) 9 Tryd.underlying9
        have hsz : (strOfNums [48 + k % 10]).size = 1 := rfl
        have HM := Lib.hid (show mdig (k / 10).toNat (strOfNums [48 + k % 10] ++ s) = D by
          rw [← hd0]
          conv => rhs; rw [mdig]
          rw [dif_pos (by omega)]
          have e1 : ((k.toNat : Nat) : Int) = k := by omega
          have e2 : (k / 10).toNat = k.toNat / 10 := by omega
          rw [e1, e2])
        clear hd0
        generalize strOfNums [48 + k % 10] = d at hconv hsz HM
        go_wp2
        exact ⟨⟨k / 10, d ++ s, rfl, rfl, by omega, by rw [ByteArray.size_append, hsz]; omega, HM.out, by (repeat (first | with_reducible assumption | exact Bw.refl _ | (with_reducible refine Bw.setCell ?_ (by simp) _) | (with_reducible refine Bw.alloc ?_ _) | (with_reducible refine Bw.drew ?_) | (with_reducible refine Bw.drewN ?_ _)))⟩, by simp [intOf]; omega⟩
      · have HM := Lib.hid (show s = D by
          rw [← hd0, mdig, dif_neg (by omega)])
        clear hd0
        go_wp2
        go_ret
        rw [HM.out]
        exact ⟨rfl, hbl⟩
def marksS : Nat → Int → List ByteArray
  | 0, _ => []
  | n + 1, k => mtext k :: marksS n (k + 1)
theorem marksS_len (n : Nat) (k : Int) : (marksS n k).length = n := by
  induction n generalizing k with
  | zero => rfl
  | succ n ih => simp [marksS, ih]
theorem marksS_get (n : Nat) (k : Int) (j : Nat) (hj : j < n) : strAt (marksS n k) j = mtext (k + j) := by
  induction n generalizing k j with
  | zero => omega
  | succ n ih =>
    cases j with
    | zero => simp [marksS, strAt]
    | succ j =>
      have := ih (k + 1) j (by omega)
      simp only [strAt, marksS, List.getD_cons_succ] at this ⊢
      rw [this]
      congr 1
      omega
end Go.Proofs.YtedbidepplmjdaaDoor
