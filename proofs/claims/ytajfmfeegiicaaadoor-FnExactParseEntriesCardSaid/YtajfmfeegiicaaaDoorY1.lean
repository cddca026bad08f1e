
/- The text of an element, read: plain (begun). -/
import Derived.Test.YtajfmfeegiicaaaDoorET
import Derived.Test.YtajfmfeegiicaaaDoorQ5
import Derived.Lib.Join
namespace Go.Proofs.YtajfmfeegiicaaaDoor
open Go.RowKit Go.Shelf
/-- An entry's words. -/
def entL (v : Ev) : List (List UInt8) := [Lib.decDigits v.num.toNat, [102, 111, 114], (joinT v.fs ⟨#[]⟩).data.toList, [117, 110, 116, 105, 108], Lib.decDigits v.unt.toNat]
theorem entS_list (acc : ByteArray) (v : Ev) : (entS acc v).data.toList = acc.data.toList ++ ([59, 32] ++ Lib.join (entL v) [32]) := by
  simp [entS, entL, numT, Lib.join_cons, Lib.joinTail]
theorem entsT_list (u : Nat) (es : List Ev) : (entsT u es).data.toList = Lib.join (Lib.decDigits u :: es.map fun v => Lib.join (entL v) [32]) [59, 32] := by
  rw [Lib.join_cons]
  have h : ∀ (es : List Ev) (acc : ByteArray), (es.foldl entS acc).data.toList = acc.data.toList ++ Lib.joinTail [59, 32] (es.map fun v => Lib.join (entL v) [32]) := by
    intro es
    induction es with
    | nil => intro acc; simp [Lib.joinTail]
    | cons v r ih =>
      intro acc
      rw [List.foldl_cons, ih, entS_list]
      simp [Lib.joinTail]
  rw [entsT, h]
  simp [numT]
theorem digits_no {u : Nat} {b : UInt8} (hb : b.toNat < 48 ∨ 57 < b.toNat) : b ∉ Lib.decDigits u := fun h => by
  obtain ⟨j, hj⟩ := List.getElem?_of_mem h
  obtain ⟨d, hd⟩ := Lib.digit_of_decFrom _ _ _ (decFrom_digits u) j b hj
  have := Lib.digitVal_eq hd
  omega
theorem faces_no {fs : List Int} {b : UInt8} (hb : b.toNat < 48 ∨ 57 < b.toNat) : b ∉ (joinT fs ⟨#[]⟩).data.toList := by
  cases fs with
  | nil => simp [joinT, numW, Lib.join_nil]
  | cons x r =>
    simp only [joinT, numW, List.map_cons, Lib.join_cons, Lib.joinTail]
    intro h
    simp only [List.nil_append, List.mem_append, List.mem_flatten, List.mem_map] at h
    rcases h with h | ⟨l, ⟨y, ⟨z, ⟨q, _, rfl⟩, rfl⟩, rfl⟩, h⟩
    · exact digits_no (u := x.toNat) hb h
    · exact digits_no (u := q.toNat) hb (by simpa [numT] using h)
theorem splL_app {b : UInt8} {x z : List UInt8} (hx : b ∉ x) : splL b (x ++ b :: z) = x :: splL b z := by
  have h := splL_hit (b := b) (l := x ++ b :: z) (k := x.length) (fun j hj e => by
    rw [List.getElem?_append_left hj] at e
    exact hx (List.mem_of_getElem? e)) (by simp)
  rw [h]
  simp
theorem splL_of_join {b : UInt8} : ∀ (x : List UInt8) (r : List (List UInt8)), (∀ y ∈ x :: r, b ∉ y) → splL b (Lib.join (x :: r) [b]) = x :: r
  | x, [], h => by
    rw [Lib.join_one]
    exact splL_none (fun j e => h x (by simp) (List.mem_of_getElem? e))
  | x, y :: r, h => by
    have e : Lib.join (x :: y :: r) [b] = x ++ b :: Lib.join (y :: r) [b] := by
      rw [Lib.join_cons, Lib.join_cons]; simp [Lib.joinTail]
    rw [e, splL_app (h x (by simp)), splL_of_join y r (fun z hz => h z (List.mem_cons_of_mem _ hz))]
theorem entL_no {v : Ev} {b : UInt8} (hb : b.toNat < 48) : ∀ y ∈ entL v, b ∉ y := by
  intro y hy
  simp only [entL, List.mem_cons, List.not_mem_nil, or_false] at hy
  rcases hy with rfl | rfl | rfl | rfl | rfl
  · exact digits_no (.inl hb)
  · intro h; simp only [List.mem_cons, List.not_mem_nil, or_false] at h; rcases h with rfl | rfl | rfl <;> simp at hb
  · exact faces_no (.inl hb)
  · intro h; simp only [List.mem_cons, List.not_mem_nil, or_false] at h; rcases h with rfl | rfl | rfl | rfl | rfl <;> simp at hb
  · exact digits_no (.inl hb)
/-- An entry's text cut at blanks. -/
theorem splL_ent (v : Ev) : splL 32 (Lib.join (entL v) [32]) = entL v := splL_of_join _ _ (entL_no (by decide))
/-- An entry's text holds no semicolon. -/
theorem ent_no59 (v : Ev) : (59 : UInt8) ∉ Lib.join (entL v) [32] := by
  have hd : ∀ u, (59 : UInt8) ∉ Lib.decDigits u := fun u => digits_no (by decide)
  have hf : (59 : UInt8) ∉ (joinT v.fs ⟨#[]⟩).data.toList := faces_no (by decide)
  simp only [entL, Lib.join_cons, Lib.joinTail, List.map_cons, List.map_nil, List.flatten_cons, List.flatten_nil]
  simp [hd, hf]
end Go.Proofs.YtajfmfeegiicaaaDoor
