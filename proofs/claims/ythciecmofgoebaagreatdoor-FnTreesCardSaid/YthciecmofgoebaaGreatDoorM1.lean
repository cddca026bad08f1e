
/- Paths in trees: what lies beside what; plain. -/
import Derived.Test.YthciecmofgoebaaGreatDoorP6
namespace Go.Proofs.YthciecmofgoebaaGreatDoor
open Go.RowKit
structure UpOk (ps : List Int) (x : Int) (L : List Int) : Prop where
  hd : L.length = 0 ∧ x < 0 ∨ intAt L 0 = x
  bd : ∀ i, i < L.length → 0 ≤ intAt L i ∧ intAt L i ≤ x
  st : ∀ i, i + 1 < L.length → intAt L (i + 1) = intAt ps (intAt L i).toNat ∧ intAt L (i + 1) < intAt L i
theorem up_ok {ps : List Int} (hg : goodP ps = true) : ∀ (f : Nat) (x : Int), x < ps.length → x < f → UpOk ps x (up ps f x)
  | 0, x, _, hf => ⟨.inl ⟨rfl, by omega⟩, by simp [up], by simp [up]⟩
  | f + 1, x, hx, hf => by
    unfold up
    split
    · rename_i h0
      exact ⟨.inl ⟨rfl, h0⟩, by simp, by simp⟩
    · rename_i h0
      have hlt := goodP_lt hg (k := x.toNat) (by omega)
      have ih := up_ok hg f (intAt ps x.toNat) (by omega) (by omega)
      generalize up ps f (intAt ps x.toNat) = L at *
      have e0 : intAt (x :: L) 0 = x := by simp [intAt]
      have es : ∀ i, intAt (x :: L) (i + 1) = intAt L i := fun i => by simp [intAt]
      refine ⟨.inr e0, fun i hi => ?_, fun i hi => ?_⟩
      · cases i with
        | zero => rw [e0]; omega
        | succ i => rw [es]; have := ih.bd i (by simpa using hi); omega
      · cases i with
        | zero =>
          rw [es, e0]
          have hl : 0 < L.length := by simpa using hi
          rcases ih.hd with h | h
          · omega
          · rw [h]; exact ⟨rfl, by omega⟩
        | succ i => rw [es, es]; exact ih.st i (by simpa using hi)
theorem intAt_rev {L : List Int} {j : Nat} (h : j < L.length) : intAt L.reverse j = intAt L (L.length - 1 - j) := by
  rw [intAt_lt (by simpa using h), intAt_lt (by omega), List.getElem_reverse]
structure PathOk (ps : List Int) (x : Int) (P : List Int) : Prop where
  ne : 0 < P.length
  last : intAt P (P.length - 1) = x
  bd : ∀ i, i < P.length → 0 ≤ intAt P i ∧ intAt P i ≤ x
  st : ∀ i, i + 1 < P.length → intAt ps (intAt P (i + 1)).toNat = intAt P i ∧ intAt P i < intAt P (i + 1)
theorem path_ok {ps : List Int} {x : Int} (hg : goodP ps = true) (h0 : 0 ≤ x) (h1 : x < ps.length) : PathOk ps x (pathP ps x) := by
  have h8 := (goodP_iff.1 hg).1.2
  have hu := up_ok hg 9 x h1 (by omega)
  have hne : 0 < (up ps 9 x).length := by
    obtain ⟨m, rfl⟩ : ∃ m : Nat, x = m := ⟨x.toNat, by omega⟩
    rw [up_step ps (show m < 9 by omega)]; simp
  have e : pathP ps x = (up ps 9 x).reverse := rfl
  generalize up ps 9 x = L at *
  rw [e]
  have hl : L.reverse.length = L.length := List.length_reverse
  refine ⟨by omega, ?_, fun i hi => ?_, fun i hi => ?_⟩
  · rw [intAt_rev (by omega), hl, Nat.sub_self]
    rcases hu.hd with h | h
    · omega
    · exact h
  · rw [intAt_rev (by omega)]; exact hu.bd _ (by omega)
  · rw [intAt_rev (by omega), intAt_rev (by omega)]
    have := hu.st (L.length - 1 - (i + 1)) (by omega)
    rw [show L.length - 1 - (i + 1) + 1 = L.length - 1 - i by omega] at this
    exact ⟨this.1.symm, this.2⟩
theorem node_range {ps : List Int} {x : Int} (h : nodeP ps x = true) : goodP ps = true ∧ 0 ≤ x ∧ x < ps.length := by
  simp only [nodeP, Bool.and_eq_true] at h
  have := inR_iff.1 h.2
  exact ⟨h.1, by omega, by omega⟩
theorem node_of {ps : List Int} {x : Int} (hg : goodP ps = true) (h0 : 0 ≤ x) (h1 : x < ps.length) : nodeP ps x = true := by
  simp [nodeP, hg, inR_mk (show 0 ≤ x ∧ x ≤ (ps.length : Int) - 1 by omega)]
def pathR (ps : List Int) (x : Int) : List Int := if nodeP ps x then pathP ps x else []
theorem pathR_len (ps : List Int) (x : Int) : (pathR ps x).length ≤ 9 := by
  unfold pathR; split
  · exact pathP_len _ _
  · simp
def childTo (ps : List Int) (x : Int) (k : Nat) : List Int := ((List.range k).filter (fun (i : Nat) => intAt ps i == x)).map (fun (i : Nat) => (i : Int))
theorem childTo_yes {ps : List Int} {x : Int} {k : Nat} (h : intAt ps k = x) : childTo ps x (k + 1) = childTo ps x k ++ [(k : Int)] := by
  simp [childTo, List.range_succ, h]
theorem childTo_no {ps : List Int} {x : Int} {k : Nat} (h : ¬ intAt ps k = x) : childTo ps x (k + 1) = childTo ps x k := by
  simp [childTo, List.range_succ, h]
theorem childTo_len (ps : List Int) (x : Int) (k : Nat) : (childTo ps x k).length ≤ k := by
  have := List.length_filter_le (fun (i : Nat) => intAt ps i == x) (List.range k)
  simpa [childTo] using this
theorem childTo_one {ps : List Int} {x : Int} (hg : goodP ps = true) (h0 : 0 ≤ x) : childTo ps x 1 = [] := by
  have h2 := (goodP_iff.1 hg).1.1
  have := goodP_lt hg (k := 0) (by omega)
  rw [childTo_no (by have := this.2; omega)]; rfl
def childR (ps : List Int) (x : Int) : List Int := if nodeP ps x then childTo ps x ps.length else []
theorem childR_len (ps : List Int) (x : Int) : (childR ps x).length ≤ ps.length := by
  unfold childR; split
  · exact childTo_len _ _ _
  · simp
def faceC (ps : List Int) (a b : Int) : Bool := nodeP ps a && (nodeP ps b && !(a == b))
def faceB (ps : List Int) (a b : Int) : Bool := faceC ps a b && hasI (pathP ps b) a
def faceN (ps : List Int) (a b : Int) : Int := if faceB ps a b = true then intAt (pathP ps b) ((idxI (pathP ps b) a).toNat + 1) else 0
theorem idxI_spec {ts : List Int} {x : Int} (h : hasI ts x = true) : ∃ k : Nat, idxI ts x = k ∧ k < ts.length ∧ intAt ts k = x ∧ ∀ j, j < k → intAt ts j ≠ x := by
  have hm : x ∈ ts := by simpa [hasI] using h
  have hlt : ts.findIdx (· == x) < ts.length := List.findIdx_lt_length.2 ⟨x, hm, by simp⟩
  refine ⟨ts.findIdx (· == x), by simp [idxI, hlt], hlt, ?_, fun j hj => ?_⟩
  · have h2 := List.findIdx_getElem (xs := ts) (p := (· == x)) (w := hlt)
    simp only [beq_iff_eq] at h2
    rw [intAt_lt hlt, h2]
  · have h2 := List.not_of_lt_findIdx hj
    rw [intAt_lt (by omega)]
    simpa using h2
structure FaceOk (ps : List Int) (a b : Int) (k : Nat) : Prop where
  idx : idxI (pathP ps b) a = k
  lt : k + 1 < (pathP ps b).length
  at_ : intAt (pathP ps b) k = a
  first : ∀ j, j < k → intAt (pathP ps b) j ≠ a
  n : faceN ps a b = intAt (pathP ps b) (k + 1)
theorem face_at {ps : List Int} {a b : Int} (h : faceB ps a b = true) : ∃ k, FaceOk ps a b k := by
  have hf := h
  simp only [faceB, faceC, Bool.and_eq_true] at h
  obtain ⟨⟨h1, h2, h3⟩, h4⟩ := h
  obtain ⟨k, e1, e2, e3, e4⟩ := idxI_spec h4
  have hb := node_range h2
  have ok := path_ok hb.1 hb.2.1 hb.2.2
  refine ⟨k, e1, ?_, e3, e4, by rw [faceN, if_pos hf, e1]; rfl⟩
  rcases Nat.lt_or_ge (k + 1) (pathP ps b).length with h | h
  · exact h
  · exfalso
    have := ok.last
    rw [show (pathP ps b).length - 1 = k by omega, e3] at this
    simp [this] at h3
theorem face_parent {ps : List Int} {a b : Int} (h : faceB ps a b = true) : ∃ f : Nat, faceN ps a b = f ∧ f < ps.length ∧ intAt ps f = a := by
  obtain ⟨k, hk⟩ := face_at h
  simp only [faceB, faceC, Bool.and_eq_true] at h
  have hb := node_range h.1.2.1
  have ok := path_ok hb.1 hb.2.1 hb.2.2
  have b1 := ok.bd (k + 1) hk.lt
  have s1 := ok.st k hk.lt
  refine ⟨(intAt (pathP ps b) (k + 1)).toNat, by rw [hk.n]; omega, by omega, by rw [s1.1, hk.at_]⟩
theorem face_no {ps : List Int} {a b : Int} (h : faceB ps a b = false) : faceN ps a b = 0 := by simp [faceN, h]
/-- Nodes below a node. -/
theorem below_mem {ps : List Int} {x b : Int} (hx : nodeP ps x = true) (h : b ∈ belowR ps x) : nodeP ps b = true ∧ hasI (pathR ps b) x = true ∧ faceB ps x b = !(b == x) := by
  have hr := node_range hx
  rw [belowR, if_pos hx, belowTo] at h
  simp only [List.mem_map, List.mem_filter, List.mem_range] at h
  obtain ⟨i, ⟨hi, hh⟩, rfl⟩ := h
  have hn := node_of hr.1 (x := (i : Int)) (by omega) (by omega)
  refine ⟨hn, by rw [pathR, if_pos hn]; exact hh, ?_⟩
  rw [faceB, faceC, hx, hn, hh]
  simp only [Bool.true_and, Bool.and_true]
  congr 1
  rw [Bool.eq_iff_iff]
  simp only [beq_iff_eq]
  exact ⟨fun h => h.symm, fun h => h.symm⟩
/-- The last common node of two rising paths. -/
theorem meet_scan (pb pa : List Int) : ∀ k, k ≤ pa.length → (∃ i, i < k ∧ hasI pb (intAt pa i) = true ∧ meetTo pb pa k = intAt pa i ∧ ∀ j, j < k → hasI pb (intAt pa j) = true → j ≤ i) ∨ ((∀ j, j < k → hasI pb (intAt pa j) = false) ∧ meetTo pb pa k = 0)
  | 0, _ => .inr ⟨fun j hj => absurd hj (by omega), meetTo_zero _ _⟩
  | k + 1, hk => by
    cases hh : hasI pb (intAt pa k)
    · rw [meetTo_no (by omega) hh]
      rcases meet_scan pb pa k (by omega) with ⟨i, h1, h2, h3, h4⟩ | ⟨h1, h2⟩
      · refine .inl ⟨i, by omega, h2, h3, fun j hj hj2 => ?_⟩
        rcases Nat.lt_succ_iff_lt_or_eq.1 hj with h | rfl
        · exact h4 j h hj2
        · rw [hh] at hj2; cases hj2
      · refine .inr ⟨fun j hj => ?_, h2⟩
        rcases Nat.lt_succ_iff_lt_or_eq.1 hj with h | rfl
        · exact h1 j h
        · exact hh
    · exact .inl ⟨k, by omega, hh, meetTo_yes (by omega) hh, fun j hj _ => by omega⟩
theorem rise_le {ps P : List Int} {x : Int} (h : PathOk ps x P) : ∀ (d i : Nat), i + d < P.length → intAt P i ≤ intAt P (i + d)
  | 0, i, _ => Int.le_refl _
  | d + 1, i, hd => by
    have h1 := rise_le h d i (by omega)
    have h2 := (h.st (i + d) (by omega)).2
    rw [show i + (d + 1) = i + d + 1 by omega]
    omega
theorem hasI_get {P : List Int} {i : Nat} (h : i < P.length) : hasI P (intAt P i) = true := hasI_at h rfl
theorem hasI_idxE {P : List Int} {x : Int} (h : hasI P x = true) : ∃ j, j < P.length ∧ intAt P j = x := by
  obtain ⟨k, _, h1, h2, _⟩ := idxI_spec h
  exact ⟨k, h1, h2⟩
theorem meet_le {ps pa pb : List Int} {a b : Int} (ha : PathOk ps a pa) (hb : PathOk ps b pb) : meetTo pb pa pa.length = meetTo pa pb pb.length := by
  have common : ∀ {pa pb : List Int} {i : Nat}, hasI pb (intAt pa i) = true → i < pa.length → ∃ j, j < pb.length ∧ intAt pb j = intAt pa i ∧ hasI pa (intAt pb j) = true := by
    intro pa pb i h1 h2
    obtain ⟨j, h3, h4⟩ := hasI_idxE h1
    exact ⟨j, h3, h4, by rw [h4]; exact hasI_get h2⟩
  rcases meet_scan pb pa pa.length (Nat.le_refl _) with ⟨i, h1, h2, h3, h4⟩ | ⟨h1, h2⟩
  · rcases meet_scan pa pb pb.length (Nat.le_refl _) with ⟨i', g1, g2, g3, g4⟩ | ⟨g1, g2⟩
    · rw [h3, g3]
      obtain ⟨j, j1, j2, j3⟩ := common h2 h1
      obtain ⟨j', k1, k2, k3⟩ := common g2 g1
      have a1 := g4 j j1 j3
      have a2 := h4 j' k1 k3
      have r1 := rise_le hb (i' - j) j (by omega)
      have r2 := rise_le ha (i - j') j' (by omega)
      rw [show j + (i' - j) = i' by omega] at r1
      rw [show j' + (i - j') = i by omega] at r2
      omega
    · obtain ⟨j, j1, j2, j3⟩ := common h2 h1
      rw [g1 j j1] at j3; cases j3
  · rcases meet_scan pa pb pb.length (Nat.le_refl _) with ⟨i', g1, g2, g3, g4⟩ | ⟨g1, g2⟩
    · obtain ⟨j, j1, j2, j3⟩ := common g2 g1
      rw [h1 j j1] at j3; cases j3
    · rw [h2, g2]
theorem meetC_comm (ps : List Int) (a b : Int) : meetC ps a b = meetC ps b a := by
  rw [meetC_nodes, meetC_nodes, Bool.and_comm]
theorem meetN_comm (ps : List Int) (a b : Int) : meetN ps a b = meetN ps b a := by
  unfold meetN
  rw [meetC_comm ps b a]
  split
  · rename_i h
    rw [meetC_nodes, Bool.and_eq_true] at h
    have h1 := node_range h.1
    have h2 := node_range h.2
    exact meet_le (path_ok h1.1 h1.2.1 h1.2.2) (path_ok h2.1 h2.2.1 h2.2.2)
  · rfl
end Go.Proofs.YthciecmofgoebaaGreatDoor
