
/- The law's own texts that mark memory. -/
import Derived.Test.YtedbidepplmjdaaDoorS1
import Derived.Laws.BytesArg
namespace Go.Proofs.YtedbidepplmjdaaDoor
open Go.RowKit
set_option maxRecDepth 100000 in
theorem c_markText (k0 : Int) (h0 : 0 ≤ k0) (h1 : k0 ≤ 1000000000) (w : World) :
    Calls Tryd.prog 44 #[.int .i64 k0] w fun e w' => (∃ s : ByteArray, e = .returned (.string s)) ∧ Bw w w' := by
  by_cases hz : k0 ≤ 0
  · go_enter Tryd.func44, Tryd.ntmps44
    go_wp2
    go_ret
    exact ⟨⟨_, rfl⟩, Bw.refl _⟩
  · go_enter Tryd.func44, Tryd.ntmps44
    go_wp2
    go_loopw [0, 3] (fun kv v wr => ∃ (k : Int) (s : ByteArray), kv = .int .i64 k ∧ v = .string s ∧ 0 ≤ k ∧ (s.size : Int) + k ≤ 1000000000 ∧ Bw w wr) (fun kv _ _ => (intOf kv).toNat)
    case atStart => exact ⟨k0, ByteArray.empty, rfl, rfl, h0, by simpa using h1, Bw.refl _⟩
    case round =>
      obtain ⟨k, s, rfl, rfl, hk0, hs, hbl⟩ := hrel
      by_cases hk : 0 < k
      · have hr : 0 ≤ k % 10 ∧ k % 10 ≤ 9 := by omega
        have hq : k.tmod 10 = k % 10 := Int.tmod_eq_emod_of_nonneg hk0
        have hd : k.tdiv 10 = k / 10 := Int.tdiv_eq_ediv_of_nonneg hk0
        have hcl : ∀ i, i < 1 → (wr.alloc (.cells #[.int .u8 (48 + k % 10)] 5)).cell? ⟨wr.heap.size, 0 + i, none⟩ = some (.int .u8 ([48 + k % 10].getD i 0)) := fun i hi => by
          obtain rfl : i = 0 := by omega
          simp
        have hconv : (convert 73 9 (.slice (some ⟨wr.heap.size, 0, none⟩) 1 1)).run Tryd.prog (wr.alloc (.cells #[.int .u8 (48 + k % 10)] 5)) = .ok (.string (strOfNums [48 + k % 10])) (wr.alloc (.cells #[.int .u8 (48 + k % 10)] 5)) :=
          run_convert_bytes_arg _ 73 5 Tryd.underlying73 Tryd.underlying5 wr.heap.size 0 1 1 [48 + k % 10] rfl (hcl) 9 Tryd.underlying9
        have hsz : (strOfNums [48 + k % 10]).size = 1 := rfl
        generalize strOfNums [48 + k % 10] = d at hconv hsz
        go_wp2
        exact ⟨⟨k / 10, d ++ s, rfl, rfl, by omega, by rw [ByteArray.size_append, hsz]; omega, by (repeat (first | with_reducible assumption | exact Bw.refl _ | (with_reducible refine Bw.setCell ?_ (by simp) _) | (with_reducible refine Bw.alloc ?_ _) | (with_reducible refine Bw.drew ?_) | (with_reducible refine Bw.drewN ?_ _)))⟩, by simp [intOf]; omega⟩
      · go_wp2
        go_ret
        exact ⟨⟨_, rfl⟩, hbl⟩
end Go.Proofs.YtedbidepplmjdaaDoor
