
/- Joined texts of numbers, number by number. -/
import Derived.Test.YtajfmfeegiicaaaDoorJ
namespace Go.Proofs.YtajfmfeegiicaaaDoor
open Go.RowKit
theorem joinT_one (x : Int) (sep : ByteArray) : joinT [x] sep = numT x.toNat := by
  simp [joinT, numW, Lib.join_one]
theorem joinT_succ {ts : List Int} {sep : ByteArray} {k : Nat} (h1 : 1 ≤ k) (hk : k < ts.length) : joinT (ts.take (k + 1)) sep = joinT (ts.take k) sep ++ sep ++ numT (intAt ts k).toNat := by
  obtain ⟨m, rfl⟩ : ∃ m, k = m + 1 := ⟨k - 1, by omega⟩
  cases ts with
  | nil => simp at hk
  | cons x r =>
    have hm : m < r.length := by simpa using hk
    have e : intAt (x :: r) (m + 1) = r[m] := by simp [intAt, hm]
    have hg : ((r.map fun x => numT x.toNat).map (·.data.toList))[m]? = some (numT (intAt (x :: r) (m + 1)).toNat).data.toList := by
      rw [e]; simp [hm]
    have h := Lib.joinTail_take_succ sep.data.toList _ m _ hg
    apply ByteArray.ext
    apply Array.toList_inj.1
    simp only [joinT, numW, List.take_succ_cons, List.map_cons, Lib.join_cons, ByteArray.data_append, Array.toList_append]
    rw [List.append_assoc, List.append_assoc]
    congr 1
    rw [← List.append_assoc]
    simp only [List.map_take]
    exact h
theorem joinT_size {ts : List Int} {sep : ByteArray} (hs : sep.size ≤ 1) (hv : ∀ k, k < ts.length → intAt ts k ≤ 100) : ∀ k, k ≤ ts.length → (joinT (ts.take k) sep).size ≤ k * 102 := by
  intro k
  induction k with
  | zero => intro _; simp [joinT, numW, Lib.join_nil, ByteArray.size]
  | succ k ih =>
    intro hk
    have hz := numT_size (intAt ts k).toNat
    have hvk := hv k (by omega)
    rcases Nat.eq_zero_or_pos k with rfl | h1
    · have e : ts.take 1 = [intAt ts 0] := by
        cases ts with
        | nil => simp at hk
        | cons x r => simp [intAt]
      rw [Nat.zero_add, e, joinT_one]; omega
    · rw [joinT_succ h1 (by omega)]
      have := ih (by omega)
      simp only [ByteArray.size_append]
      omega
end Go.Proofs.YtajfmfeegiicaaaDoor
