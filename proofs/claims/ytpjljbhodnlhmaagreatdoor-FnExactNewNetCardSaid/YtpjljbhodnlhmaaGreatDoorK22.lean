
/- A region that draws its order: its head in whatever order by what holds of the operations that have been done; then a tail in the order of the text. -/
import Derived.Test.YtpjljbhodnlhmaaGreatDoorK0
import Derived.StillTailTactics
namespace Go.Proofs.YtpjljbhodnlhmaaGreatDoor
open Go
section
variable {P : Program} {ops : Array Oper} {md : Region.Mode}
theorem getD_set_same {listed : Array Bool} {i : Nat} (hi : i < listed.size) (d : Bool) : (listed.setIfInBounds i true).getD i d = true := by
  simp [hi]
def undone (listed : Array Bool) (n : Nat) : Nat := ((List.range n).filter fun j => !listed.getD j true).length
theorem undone_set {listed : Array Bool} {n i : Nat} (hin : i < n) (hs : i < listed.size) (h : listed.getD i true = false) : undone (listed.setIfInBounds i true) n + 1 ≤ undone listed n := by
  unfold undone
  have h1 : ((List.range n).filter fun j => !(listed.setIfInBounds i true).getD j true) = ((List.range n).filter fun j => !listed.getD j true).filter (fun j => j != i) := by
    rw [List.filter_filter]
    apply List.filter_congr
    intro j _
    by_cases hj : j = i
    · subst hj; simp [hs]
    · rw [getD_set_ne true (fun e => hj e.symm)]
      simp [hj]
  rw [h1]
  have hm : i ∈ (List.range n).filter fun j => !listed.getD j true := by
    rw [List.mem_filter, List.mem_range]; exact ⟨hin, by rw [h]; rfl⟩
  generalize (List.range n).filter (fun j => !listed.getD j true) = l at hm
  induction l with
  | nil => cases hm
  | cons x r ih =>
    rw [List.filter_cons]
    have hle := List.length_filter_le (fun j => j != i) r
    by_cases hx : x = i
    · subst hx; simp; omega
    · have hr : i ∈ r := by rcases List.mem_cons.1 hm with e | e
                            · exact absurd e.symm hx
                            · exact e
      have := ih hr
      simp [hx]; omega
theorem wpAny_inv {n g : Nat} {Q' : Exit → Act → World → Prop} (I : Array Bool → Act → World → Prop) (hs : Region.sinkB md ops n = true) (hc : Region.chainB md ops n = true) (hn : n < ops.size)
    (step : ∀ listed a w i, HeadInv md ops n listed → I listed a w → i < n → i ∈ Region.ready md ops listed → wpOp P ops Q' i (fun a' w' => I (listed.setIfInBounds i true) a' w') a w)
    (live : ∀ listed, HeadInv md ops n listed → (∃ j, j < n ∧ listed.getD j true = false) → Region.ready md ops listed ≠ [])
    (fin : ∀ listed a w, HeadInv md ops n listed → (∀ j, j < n → listed.getD j true = true) → I listed a w → wpAny P md ops Q' g listed a w) :
    ∀ (f : Nat) (listed : Array Bool) (a : Act) (w : World), HeadInv md ops n listed → undone listed n ≤ f → I listed a w → (undone listed n = f) → wpAny P md ops Q' (f + g) listed a w
  | 0, listed, a, w, inv, _, h, h0 => by
    rw [Nat.zero_add]
    refine fin _ _ _ inv (fun j hj => ?_) h
    cases hl : listed.getD j true
    · exfalso
      have hm : j ∈ (List.range n).filter fun j => !listed.getD j true := by
        rw [List.mem_filter, List.mem_range]; exact ⟨hj, by rw [hl]; rfl⟩
      have := List.length_pos_of_mem hm
      unfold undone at h0
      omega
    · rfl
  | f + 1, listed, a, w, inv, hf, h, h0 => by
    have hex : ∃ j, j < n ∧ listed.getD j true = false := by
      have hp : 0 < ((List.range n).filter fun j => !listed.getD j true).length := by unfold undone at h0; omega
      obtain ⟨j, hj⟩ := List.exists_mem_of_length_pos hp
      rw [List.mem_filter, List.mem_range] at hj
      exact ⟨j, hj.1, by simpa using hj.2⟩
    rw [show f + 1 + g = (f + g) + 1 by omega]
    refine ⟨fun hr => absurd hr (live _ inv hex), fun i hi => ?_⟩
    have hin : i < n := by
      rcases Nat.lt_or_ge i n with hh | hh
      · exact hh
      · obtain ⟨j, hj, hjl⟩ := hex
        exact absurd hi (tail_waits hs hc hn inv _ j rfl hj hjl i hh)
    have hun := (mem_ready.1 hi).1
    have hsz : i < listed.size := by rw [inv.size]; omega
    have hdec := undone_set hin hsz hun
    have hinc : undone listed n ≤ undone (listed.setIfInBounds i true) n + 1 := by
      unfold undone
      have h1 : ((List.range n).filter fun j => !(listed.setIfInBounds i true).getD j true) = ((List.range n).filter fun j => !listed.getD j true).filter (fun j => j != i) := by
        rw [List.filter_filter]
        apply List.filter_congr
        intro j _
        by_cases hj : j = i
        · subst hj; simp [hsz]
        · rw [getD_set_ne true (fun e => hj e.symm)]
          simp [hj]
      rw [h1]
      have hnd : ((List.range n).filter fun j => !listed.getD j true).Nodup := List.nodup_range.filter _
      generalize (List.range n).filter (fun j => !listed.getD j true) = l at hnd
      induction l with
      | nil => simp
      | cons x r ih =>
        rw [List.nodup_cons] at hnd
        rw [List.filter_cons]
        by_cases hx : x = i
        · subst hx
          have : r.filter (fun j => j != x) = r := by
            rw [List.filter_eq_self]
            intro y hy
            simp only [bne_iff_ne, ne_eq]
            rintro rfl
            exact hnd.1 hy
          simp [this]
        · have := ih hnd.2
          simp [hx]; omega
    exact wpOp_mono (fun a' w' h' => wpAny_inv I hs hc hn step live fin f _ a' w' (inv.set hi hin) (by omega) h' (by omega)) (step _ _ _ _ inv h hin hi)
end
/-- The list of what is done when the head is done. -/
theorem head_done {md : Region.Mode} {ops : Array Oper} {n : Nat} {listed : Array Bool} (inv : HeadInv md ops n listed) (hall : ∀ j, j < n → listed.getD j true = true) (hn : n ≤ ops.size) : listed = Array.replicate n true ++ Array.replicate (ops.size - n) false := by
  apply Array.ext
  · simp [inv.size]; omega
  · intro j h1 h2
    rw [inv.size] at h1
    by_cases hj : j < n
    · have := hall j hj
      have hs : j < listed.size := by rw [inv.size]; exact h1
      simp [hs] at this
      rw [this]
      simp [Array.getElem_append, hj]
    · have := inv.tail j (by omega) h1
      have hs : j < listed.size := by rw [inv.size]; exact h1
      simp [hs] at this
      rw [this]
      simp [Array.getElem_append, hj]
/-- Every order of the head leaves some operation ready while one is left: by the order of the text. -/
theorem head_live {md : Region.Mode} {ops : Array Oper} {n : Nat} (hn : n ≤ ops.size) (hord : ((List.range n).all fun i => match ops[i]? with | some o => o.after.all (fun e => !Region.binds md e || decide (e.on < i)) | none => false) = true) :
    ∀ listed, HeadInv md ops n listed → (∃ j, j < n ∧ listed.getD j true = false) → Region.ready md ops listed ≠ [] := by
  intro listed inv hex
  -- the least one left is ready
  obtain ⟨j, hj, hl, hmin⟩ : ∃ j, j < n ∧ listed.getD j true = false ∧ ∀ k, k < j → listed.getD k true = true := by
    obtain ⟨j, hj, hl⟩ := hex
    induction j using Nat.strongRecOn with
    | ind j ih =>
      by_cases hk : ∃ k, k < j ∧ listed.getD k true = false
      · obtain ⟨k, hk, hkl⟩ := hk
        exact ih k hk (by omega) hkl
      · exact ⟨j, hj, hl, fun k hk2 => by
          cases h : listed.getD k true
          · exact absurd ⟨k, hk2, h⟩ hk
          · rfl⟩
  have hm : j ∈ Region.ready md ops listed := by
    rw [mem_ready]
    have ho := List.all_eq_true.1 hord j (List.mem_range.2 hj)
    cases hoj : ops[j]? with
    | none => rw [hoj] at ho; cases ho
    | some o =>
      rw [hoj] at ho
      refine ⟨hl, o, rfl, fun e he hb => ?_⟩
      have h1 := Array.all_eq_true_iff_forall_mem.1 ho e he
      rw [hb] at h1
      have h2 : e.on < j := by simpa using h1
      have h3 := hmin e.on h2
      have hs : e.on < listed.size := by rw [inv.size]; omega
      simp [hs] at h3 ⊢
      exact h3
  intro he
  rw [he] at hm
  cases hm
theorem wp_region_inv {P : Program} {id : Nat} {Q : Exit → Act → World → Prop} {a : Act} {w : World} {l : List Oper} (n : Nat) (I : Array Bool → Act → World → Prop) (hm : P.follows .mixedOrders = true)
    (hs : Region.sinkB .any l.toArray n = true) (hc : Region.chainB .any l.toArray n = true) (hn : n < l.length)
    (hord : ((List.range n).all fun i => match l.toArray[i]? with | some o => o.after.all (fun e => !Region.binds .any e || decide (e.on < i)) | none => false) = true)
    (hseq : Region.seqB .any l.toArray (l.length - n) n (Array.replicate n true ++ Array.replicate (l.length - n) false) = true)
    (h0 : I (Array.replicate l.length false) a { w with drawn := w.drawn + 1 })
    (step : ∀ listed a w i, HeadInv .any l.toArray n listed → I listed a w → i < n → i ∈ Region.ready .any l.toArray listed → wpOp P l.toArray Q i (fun a' w' => I (listed.setIfInBounds i true) a' w') a w)
    (fin : ∀ listed a w, HeadInv .any l.toArray n listed → (∀ j, j < n → listed.getD j true = true) → I listed a w → wpList P l.toArray Q (l.drop n) a w) : (Code.region id l.toArray true).wp P Q a w := by
  refine wp_region_any hm ?_
  have hsz : l.toArray.size = l.length := by simp
  have inv0 : HeadInv .any l.toArray n (Array.replicate l.toArray.size false) :=
    ⟨by simp, fun j oj _ hl => (by rw [getD_replicate_false] at hl; cases hl), fun t _ ht => getD_in (by simpa using ht) (getD_replicate_false _ _)⟩
  have hdl : (l.drop n).length = l.length - n := by simp
  have hun : undone (Array.replicate l.toArray.size false) n = n := by
    unfold undone
    have : (List.range n).filter (fun j => !(Array.replicate l.toArray.size false).getD j true) = List.range n := by
      rw [List.filter_eq_self]
      intro j hj
      have hj := List.mem_range.1 hj
      rw [getD_in (by simp; omega) (getD_replicate_false _ _)]; rfl
    rw [this]; simp
  have H := wpAny_inv (P := P) (Q' := Q) (md := .any) (ops := l.toArray) (n := n) (g := l.length - n) I hs hc (by omega) step (head_live (by omega) hord)
    (fun listed a' w' inv hall hI => by
      have hd := head_done inv hall (by omega)
      have := wpAny_of_seq (md := .any) (Q' := Q) (P := P) (ops := l.toArray) (l.drop n) n listed a' w' (fun j => by simp [List.getElem?_drop]) (by rw [hdl, hd, hsz]; exact hseq) (fin _ _ _ inv hall hI)
      rwa [hdl] at this) n _ a _ inv0 (by omega) (by rw [hsz]; exact h0) hun
  rw [show n + (l.length - n) = l.length by omega] at H
  rw [hsz]
  rw [hsz] at H
  exact H
end Go.Proofs.YtpjljbhodnlhmaaGreatDoor
