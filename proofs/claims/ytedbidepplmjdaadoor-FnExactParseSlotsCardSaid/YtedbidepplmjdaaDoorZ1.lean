
/- The text of a receive window, read: plain. -/
import Derived.Test.YtedbidepplmjdaaDoorW2
import Derived.Test.YtedbidepplmjdaaDoorQ5
import Derived.Lib.Join
namespace Go.Proofs.YtedbidepplmjdaaDoor
open Go.RowKit Go.Shelf
def wordB (s : Slot) : ByteArray := if s.have_ = true then (if s.item.toList = [] then ⟨#[46]⟩ else s.item) else ⟨#[63]⟩
def slotOf (x : ByteArray) : Slot := if x = ⟨#[63]⟩ then ⟨false, ⟨#[]⟩⟩ else if x = ⟨#[46]⟩ then ⟨true, ⟨#[]⟩⟩ else ⟨true, x⟩
theorem slotS_word (acc : ByteArray) (s : Slot) : (slotS acc s).data.toList = acc.data.toList ++ ([32] ++ (wordB s).data.toList) := by
  unfold slotS wordB
  split
  · split <;> simp
  · simp
theorem slotsT_list (u : Nat) (ts : List Slot) : (slotsT u ts).data.toList = Lib.join ((Lib.decDigits u ++ [58]) :: ts.map fun s => (wordB s).data.toList) [32] := by
  rw [Lib.join_cons]
  have h : ∀ (ts : List Slot) (acc : ByteArray), (ts.foldl slotS acc).data.toList = acc.data.toList ++ Lib.joinTail [32] (ts.map fun s => (wordB s).data.toList) := by
    intro ts
    induction ts with
    | nil => intro acc; simp [Lib.joinTail]
    | cons s r ih =>
      intro acc
      rw [List.foldl_cons, ih, slotS_word]
      simp [Lib.joinTail]
  rw [slotsT, h]
  simp [numT]
theorem splL_app {b : UInt8} {x z : List UInt8} (hx : b ∉ x) : splL b (x ++ b :: z) = x :: splL b z := by
  have h := splL_hit (b := b) (l := x ++ b :: z) (k := x.length) (fun j hj e => by
    rw [List.getElem?_append_left hj] at e
    exact hx (List.mem_of_getElem? e)) (by simp)
  rw [h]
  simp
theorem splL_of_join {b : UInt8} : ∀ (x : List UInt8) (r : List (List UInt8)), (∀ y ∈ x :: r, b ∉ y) → splL b (Lib.join (x :: r) [b]) = x :: r
  | x, [], h => by
    rw [Lib.join_one]
    exact splL_none (fun j e => h x (by simp) (List.mem_of_getElem? e))
  | x, y :: r, h => by
    have e : Lib.join (x :: y :: r) [b] = x ++ b :: Lib.join (y :: r) [b] := by
      rw [Lib.join_cons, Lib.join_cons]; simp [Lib.joinTail]
    rw [e, splL_app (h x (by simp)), splL_of_join y r (fun z hz => h z (List.mem_cons_of_mem _ hz))]
theorem digits_no {u : Nat} {b : UInt8} (hb : b.toNat < 48 ∨ 57 < b.toNat) : b ∉ Lib.decDigits u := fun h => by
  obtain ⟨j, hj⟩ := List.getElem?_of_mem h
  obtain ⟨d, hd⟩ := Lib.digit_of_decFrom _ _ _ (decFrom_digits u) j b hj
  have := Lib.digitVal_eq hd
  omega
theorem az_no {s : ByteArray} {b : UInt8} (h : azB s = true) (hb : b.toNat < 97) : b ∉ s.data.toList := fun hm => by
  have := List.all_eq_true.1 h b hm
  simp only [azAt, Bool.and_eq_true, decide_eq_true_eq] at this
  omega
theorem slot_facts {s : Slot} (h : slotB s = true) : azB s.item = true ∧ s.item.size ≤ 8 ∧ (s.have_ = false → s.item = ⟨#[]⟩) := by
  simp only [slotB, itemB, Bool.and_eq_true, Bool.or_eq_true, decide_eq_true_eq] at h
  refine ⟨h.1.1, h.1.2, fun hh => ?_⟩
  rcases h.2 with h2 | h2
  · rw [hh] at h2; cases h2
  · rw [Lib.toList_data] at h2
    apply ByteArray.ext
    exact Array.toList_inj.1 h2
theorem word_no {s : Slot} (h : slotB s = true) {b : UInt8} (hb : b.toNat < 46) : b ∉ (wordB s).data.toList := by
  have ⟨h1, _, _⟩ := slot_facts h
  unfold wordB
  split
  · split
    · intro hm; simp at hm; subst hm; simp at hb
    · exact az_no h1 (by omega)
  · intro hm; simp at hm; subst hm; simp at hb
theorem word_no58 {s : Slot} (h : slotB s = true) : (58 : UInt8) ∉ (wordB s).data.toList := by
  have ⟨h1, _, _⟩ := slot_facts h
  unfold wordB
  split
  · split
    · simp
    · exact az_no h1 (by decide)
  · simp
theorem word_size {s : Slot} (h : slotB s = true) : (wordB s).size ≤ 8 := by
  have ⟨_, h2, _⟩ := slot_facts h
  unfold wordB
  split
  · split
    · decide
    · exact h2
  · decide
theorem slotOf_word {s : Slot} (h : slotB s = true) : slotOf (wordB s) = s := by
  have ⟨h1, _, h3⟩ := slot_facts h
  obtain ⟨hv, it⟩ := s
  dsimp only at h1 h3
  cases hv
  · have e := h3 rfl
    subst e
    simp [wordB, slotOf]
  · by_cases he : it.toList = []
    · have e : it = ⟨#[]⟩ := by
        rw [Lib.toList_data] at he
        apply ByteArray.ext
        exact Array.toList_inj.1 he
      subst e
      simp [wordB, slotOf, he]
    · have n63 : it ≠ ⟨#[63]⟩ := fun e => by
        subst e
        exact az_no (b := 63) h1 (by decide) (by simp)
      have n46 : it ≠ ⟨#[46]⟩ := fun e => by
        subst e
        exact az_no (b := 46) h1 (by decide) (by simp)
      simp [wordB, slotOf, he, n63, n46]
/-- The text is that of a valid window. -/
def CanS (s : ByteArray) (u : Nat) (ts : List Slot) : Prop := rwB (u : Int) ts = true ∧ slotsT u ts = s
section
variable {s : ByteArray} {u : Nat} {ts : List Slot}
theorem CanS.slots (h : CanS s u ts) : ∀ x ∈ ts, slotB x = true := List.all_eq_true.1 (rwB_iff.1 h.1).2.2.1
theorem CanS.list (h : CanS s u ts) : s.data.toList = Lib.join ((Lib.decDigits u ++ [58]) :: ts.map fun s => (wordB s).data.toList) [32] := by
  rw [← h.2]; exact slotsT_list u ts
theorem CanS.words (h : CanS s u ts) : splB 32 s = mkB (Lib.decDigits u ++ [58]) :: ts.map wordB := by
  rw [splB, h.list, splL_of_join]
  · simp only [List.map_cons, List.map_map]
    congr 1
  · intro y hy
    rcases List.mem_cons.1 hy with rfl | hy
    · intro hm
      rcases List.mem_append.1 hm with hm | hm
      · exact digits_no (by decide) hm
      · simp at hm
    · obtain ⟨x, hx, rfl⟩ := List.mem_map.1 hy
      exact word_no (h.slots x hx) (by decide)
theorem CanS.slotsOf (h : CanS s u ts) : (ts.map wordB).map slotOf = ts := by
  rw [List.map_map]
  conv => rhs; rw [← List.map_id ts]
  apply List.map_congr_left
  intro x hx
  exact slotOf_word (h.slots x hx)
theorem CanS.u_le (h : CanS s u ts) : u ≤ 65535 := by
  have := inR_iff.1 (rwB_iff.1 h.1).1
  omega
theorem CanS.size (h : CanS s u ts) : s.size ≤ 100 := by
  have hu := h.u_le
  have h8 := (rwB_iff.1 h.1).2.1
  have hd := decDigits_le 4 u (by omega)
  have hj : ∀ (l : List Slot), (∀ x ∈ l, slotB x = true) → (Lib.joinTail [32] (l.map fun s => (wordB s).data.toList)).length ≤ 9 * l.length := by
    intro l
    induction l with
    | nil => intro _; simp [Lib.joinTail]
    | cons x r ih =>
      intro hl
      have h1 := ih (fun y hy => hl y (List.mem_cons_of_mem _ hy))
      have h2 := word_size (hl x (by simp))
      have h3 : (wordB x).data.toList.length = (wordB x).size := by simp
      simp only [Lib.joinTail, List.map_cons, List.flatten_cons, List.length_append, List.length_cons, List.length_nil] at h1 ⊢
      omega
  have := hj ts h.slots
  have hl : s.data.toList.length = s.size := by simp
  rw [← hl, h.list, Lib.join_cons]
  simp only [List.length_append, List.length_cons, List.length_nil]
  omega
theorem indexByte_app {b : UInt8} : ∀ {a z : List UInt8}, b ∉ a → Lib.indexByte (a ++ b :: z) b = a.length
  | [], z, _ => by simp [Lib.indexByte]
  | c :: a, z, h => by
    have hc : (c == b) = false := by
      rw [beq_eq_false_iff_ne]; rintro rfl; exact h (by simp)
    have ih := indexByte_app (a := a) (z := z) (fun hm => h (List.mem_cons_of_mem _ hm))
    have h1 : ((a.length : Int) == -1) = false := by rw [beq_eq_false_iff_ne]; omega
    simp only [List.cons_append, Lib.indexByte, hc, ih, h1]
    simp
def cutA (s : ByteArray) : ByteArray := mkB (Lib.cut s.data.toList [58]).1
def cutR (s : ByteArray) : ByteArray := mkB (Lib.cut s.data.toList [58]).2.1
theorem CanS.cut (h : CanS s u ts) : cutA s = numT u ∧ splB 32 (cutR s) = mkB [] :: ts.map wordB := by
  have hs : s.data.toList = Lib.decDigits u ++ 58 :: Lib.joinTail [32] (ts.map fun s => (wordB s).data.toList) := by
    rw [h.list, Lib.join_cons]; simp
  have hi : Lib.index s.data.toList [58] = (Lib.decDigits u).length := by
    rw [Lib.index_one, hs, indexByte_app (digits_no (by decide))]
  have hc : Lib.cut s.data.toList [58] = (Lib.decDigits u, Lib.joinTail [32] (ts.map fun s => (wordB s).data.toList), true) := by
    rw [Lib.cut, if_pos (by rw [hi]; omega), hi, hs]
    simp
  refine ⟨by rw [cutA, hc]; rfl, ?_⟩
  rw [cutR, hc, splB]
  have e : (mkB (Lib.joinTail [32] (ts.map fun s => (wordB s).data.toList))).data.toList = Lib.joinTail [32] (ts.map fun s => (wordB s).data.toList) := by simp [mkB]
  dsimp only
  rw [e]
  have hw : ∀ y ∈ (ts.map fun s => (wordB s).data.toList), (32 : UInt8) ∉ y := by
    intro y hy
    obtain ⟨x, hx, rfl⟩ := List.mem_map.1 hy
    exact word_no (h.slots x hx) (by decide)
  have hm : (ts.map fun s => (wordB s).data.toList).map mkB = ts.map wordB := by
    rw [List.map_map]
    apply List.map_congr_left
    intro x _
    exact mkB_data _
  rw [← hm]
  cases hl : (ts.map fun s => (wordB s).data.toList) with
  | nil => simp [Lib.joinTail, splL]
  | cons y r =>
    rw [hl] at hw
    have e2 : Lib.joinTail [32] (y :: r) = 32 :: Lib.join (y :: r) [32] := by rw [Lib.join_cons]; simp [Lib.joinTail]
    rw [e2, splL, if_pos rfl, splL_of_join y r hw]
    rfl
theorem CanS.first (h : CanS s u ts) : 2 ≤ (strAt (splB 32 s) 0).size ∧ (strAt (splB 32 s) 0).extract 0 ((strAt (splB 32 s) 0).size - 1) = numT u := by
  have e : strAt (splB 32 s) 0 = mkB (Lib.decDigits u ++ [58]) := by rw [h.words]; rfl
  have hz : (mkB (Lib.decDigits u ++ [58])).size = (Lib.decDigits u).length + 1 := by simp [mkB, ByteArray.size]
  have hd := decDigits_ne u
  rw [e, hz]
  refine ⟨by omega, ?_⟩
  rw [Lib.extract_eq]
  simp [mkB, numT]
theorem CanS.num (h : CanS s u ts) : IsNum (numT u) u := ⟨by omega, by have := h.u_le; omega, numZ_nat u⟩
end
end Go.Proofs.YtedbidepplmjdaaDoor
