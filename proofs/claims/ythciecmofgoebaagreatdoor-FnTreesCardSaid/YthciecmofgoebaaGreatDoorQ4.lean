
/- A text's parts between bytes: both sides. -/
import Derived.Test.YthciecmofgoebaaGreatDoorJ0
import Derived.Test.YthciecmofgoebaaGreatDoorQ2
import Derived.Shelf.Strings.Split
namespace Go.Proofs.YthciecmofgoebaaGreatDoor
open Go.RowKit Go.Shelf Go.Lib
def splL (b : UInt8) : List UInt8 → List (List UInt8)
  | [] => [[]]
  | c :: l => if c = b then [] :: splL b l else match splL b l with
    | [] => [[c]]
    | x :: r => (c :: x) :: r
theorem splL_ne (b : UInt8) : ∀ l, splL b l ≠ []
  | [] => by simp [splL]
  | c :: l => by
    rw [splL]; split
    · simp
    · split <;> simp
theorem splL_none {b : UInt8} : ∀ {l : List UInt8}, (∀ j : Nat, l[j]? ≠ some b) → splL b l = [l]
  | [], _ => rfl
  | c :: l, h => by
    have hc : c ≠ b := fun e => h 0 (by simp [e])
    have ih := splL_none (b := b) (l := l) (fun j hj => h (j + 1) (by simpa using hj))
    rw [splL, if_neg hc, ih]
theorem splL_hit {b : UInt8} : ∀ {l : List UInt8} {k : Nat}, (∀ j, j < k → l[j]? ≠ some b) → l[k]? = some b → splL b l = l.take k :: splL b (l.drop (k + 1))
  | [], k, _, h => by simp at h
  | c :: l, 0, _, h => by
    have : c = b := by simpa using h
    simp [splL, this]
  | c :: l, k + 1, h1, h2 => by
    have hc : c ≠ b := fun e => h1 0 (by omega) (by simp [e])
    have ih := splL_hit (b := b) (l := l) (k := k) (fun j hj hh => h1 (j + 1) (by omega) (by simpa using hh)) (by simpa using h2)
    rw [splL, if_neg hc, ih]
    simp
theorem splL_len (b : UInt8) : ∀ l, (splL b l).length ≤ l.length + 1
  | [] => by simp [splL]
  | c :: l => by
    have := splL_len b l
    have h2 := splL_ne b l
    rw [splL]; split
    · simp; omega
    · split
      · simp
      · rename_i x r hx; rw [hx] at this; simp at this ⊢; omega
def mkB (l : List UInt8) : ByteArray := ⟨l.toArray⟩
theorem mkB_data (s : ByteArray) : mkB s.data.toList = s := by cases s; simp [mkB]
def splB (b : UInt8) (s : ByteArray) : List ByteArray := (splL b s.data.toList).map mkB
theorem splB_len (b : UInt8) (s : ByteArray) : (splB b s).length ≤ s.size + 1 := by
  have := splL_len b s.data.toList
  simpa [splB] using this
/-- strings.Split's pieces at one byte. -/
theorem splitK_one (b : UInt8) : ∀ (n : Nat) (s : List UInt8), s.length ≤ n → splitK [b] 0 (count s [b]) s = splL b s := by
  intro n
  induction n with
  | zero =>
    intro s hs
    have : s = [] := by cases s <;> simp at hs ⊢
    subst this
    rw [count_one]; rfl
  | succ n ih =>
    intro s hs
    rw [count_one]
    cases hc : s.count b with
    | zero =>
      have hn : b ∉ s := by simpa using List.count_eq_zero.1 hc
      rw [splL_none (fun j hj => hn (List.mem_of_getElem? hj))]; rfl
    | succ m =>
      have hm : b ∈ s := List.count_pos_iff.1 (by omega)
      have hi : indexByte s b ≠ -1 := fun e => by
        obtain ⟨j, hj⟩ := List.getElem?_of_mem hm
        exact indexByte_none e j hj
      have hge := indexByte_ge s b
      obtain ⟨o, ho⟩ : ∃ o : Nat, indexByte s b = o := ⟨(indexByte s b).toNat, by omega⟩
      have ⟨h1, h2⟩ := indexByte_some ho
      have hol : o < s.length := (List.getElem?_eq_some_iff.1 h1).1
      rw [splL_hit h2 h1, splitK, index_one, ho]
      have e0 : ((o : Int) == -1) = false := by rw [beq_eq_false_iff_ne]; omega
      rw [e0]
      have hcd : (s.drop (o + 1)).count b = m := by
        have e := List.take_append_drop o s
        have h3 : s.drop o = b :: s.drop (o + 1) := by
          rw [List.drop_eq_getElem_cons hol]
          congr 1
          exact (List.getElem?_eq_some_iff.1 h1).2
        have h4 : (s.take o).count b = 0 := by
          rw [List.count_eq_zero]
          intro hmem
          obtain ⟨j, hj⟩ := List.getElem?_of_mem hmem
          have hjo : j < o := by
            have := (List.getElem?_eq_some_iff.1 hj).1
            simp at this; omega
          rw [List.getElem?_take_of_lt hjo] at hj
          exact h2 j hjo hj
        rw [← e, List.count_append, h4, h3, List.count_cons_self] at hc
        omega
      have := ih (s.drop (o + 1)) (by simp; omega)
      rw [count_one, hcd] at this
      simp only [Bool.false_eq_true, if_false, Int.toNat_natCast, Nat.add_zero, List.length_singleton]
      rw [this]
theorem splitB_one (b : UInt8) (s : ByteArray) : splitB ⟨#[b]⟩ 0 (countB s ⟨#[b]⟩) s = splB b s := by
  have h := splitB_data ⟨#[b]⟩ 0 (countB s ⟨#[b]⟩) s
  have hk := splitK_one b _ s.data.toList (Nat.le_refl _)
  have e : (splitB ⟨#[b]⟩ 0 (countB s ⟨#[b]⟩) s).map (·.data.toList) = splL b s.data.toList := by rw [h]; exact hk
  rw [splB, ← e, List.map_map]
  have : mkB ∘ (fun x : ByteArray => x.data.toList) = id := funext fun x => mkB_data x
  rw [this, List.map_id]
end Go.Proofs.YthciecmofgoebaaGreatDoor
