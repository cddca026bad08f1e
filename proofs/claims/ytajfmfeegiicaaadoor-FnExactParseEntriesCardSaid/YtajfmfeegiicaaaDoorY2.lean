
/- The text of an element, read back (plain): both ways of cutting it. -/
import Derived.Test.YtajfmfeegiicaaaDoorY1
namespace Go.Proofs.YtajfmfeegiicaaaDoor
open Go.RowKit Go.Shelf
theorem occ_no {x z : List UInt8} (hx : (59 : UInt8) ∉ x) {j : Nat} (hj : j < x.length) : Lib.occAt (x ++ z) [59, 32] j = false := by
  have hd : (x ++ z).drop j = x[j] :: (x.drop (j + 1) ++ z) := by
    rw [List.drop_append_of_le_length (by omega), List.drop_eq_getElem_cons hj]; rfl
  have hne : ((59 : UInt8) == x[j]) = false := by
    rw [beq_eq_false_iff_ne]; intro e; exact hx (e ▸ List.getElem_mem hj)
  simp [Lib.occAt, hd, List.isPrefixOf, hne]
theorem index_nosep {x : List UInt8} (hx : (59 : UInt8) ∉ x) : Lib.index x [59, 32] = -1 := by
  refine Lib.index_none fun j hj => ?_
  by_cases h : j < x.length
  · have := occ_no (z := []) hx h
    simpa using this
  · have : x.drop j = [] := List.drop_eq_nil_of_le (by omega)
    simp [Lib.occAt, this]
theorem index_sep {x z : List UInt8} (hx : (59 : UInt8) ∉ x) : Lib.index (x ++ 59 :: 32 :: z) [59, 32] = x.length :=
  Lib.index_first (by simp) (by simp [Lib.occAt]) (fun j hj => occ_no hx hj)
theorem splitK_join : ∀ (x : List UInt8) (r : List (List UInt8)), (∀ y ∈ x :: r, (59 : UInt8) ∉ y) → Lib.splitK [59, 32] 0 (Lib.count (Lib.join (x :: r) [59, 32]) [59, 32]) (Lib.join (x :: r) [59, 32]) = x :: r
  | x, [], h => by
    rw [Lib.join_one, Lib.count_miss (index_nosep (h x (by simp)))]; rfl
  | x, y :: r, h => by
    have e : Lib.join (x :: y :: r) [59, 32] = x ++ 59 :: 32 :: Lib.join (y :: r) [59, 32] := by
      rw [Lib.join_cons, Lib.join_cons]; simp [Lib.joinTail]
    have hi := index_sep (z := Lib.join (y :: r) [59, 32]) (h x (by simp))
    have ih := splitK_join y r (fun z hz => h z (List.mem_cons_of_mem _ hz))
    generalize Lib.join (y :: r) [59, 32] = Z at *
    have hd : (x ++ 59 :: 32 :: Z).drop (x.length + 2) = Z := by
      rw [List.drop_append]; simp
    have e0 : ((x.length : Int) == -1) = false := by rw [beq_eq_false_iff_ne]; omega
    rw [e, Lib.count_hit (by simp) hi, Nat.add_comm, Lib.splitK, hi, e0]
    simp only [Bool.false_eq_true, if_false, Int.toNat_natCast, Nat.add_zero, List.length_cons, List.length_nil, Nat.zero_add]
    rw [hd, ih]
    simp
/-- strings.Split at "; ". -/
def spl2 (s : ByteArray) : List ByteArray := Lib.splitB ⟨#[59, 32]⟩ 0 (Lib.countB s ⟨#[59, 32]⟩) s
theorem spl2_of {s : ByteArray} {L : List (List UInt8)} (h : Lib.splitK [59, 32] 0 (Lib.count s.data.toList [59, 32]) s.data.toList = L) : spl2 s = L.map mkB := by
  have h1 := Lib.splitB_data ⟨#[59, 32]⟩ 0 (Lib.countB s ⟨#[59, 32]⟩) s
  have e : (spl2 s).map (·.data.toList) = L := by rw [spl2, h1]; exact h
  rw [← e, List.map_map]
  have : mkB ∘ (fun x : ByteArray => x.data.toList) = id := funext fun x => mkB_data x
  rw [this, List.map_id]
theorem splitB_piece2 (sep : ByteArray) : ∀ (k : Nat) (s x : ByteArray), x ∈ Lib.splitB sep 0 k s → x.size ≤ s.size
  | 0, s, x, h => by
    simp only [Lib.splitB, List.mem_singleton] at h
    subst h; exact Nat.le_refl _
  | k + 1, s, x, h => by
    unfold Lib.splitB at h
    split at h
    · simp only [List.mem_singleton] at h
      subst h; exact Nat.le_refl _
    · rcases List.mem_cons.1 h with rfl | h
      · simp only [ByteArray.size_extract]; omega
      · have := splitB_piece2 sep k _ x h
        simp only [ByteArray.size_extract] at this; omega
theorem spl2_piece (s : ByteArray) (k : Nat) (hk : k < (spl2 s).length) : (strAt (spl2 s) k).size ≤ s.size := by
  rw [strAt_lt hk]
  exact splitB_piece2 _ _ _ _ (List.getElem_mem hk)
theorem spl2_len (s : ByteArray) : (spl2 s).length = Lib.countB s ⟨#[59, 32]⟩ + 1 ∧ (spl2 s).length ≤ s.size + 1 := by
  have h1 := Lib.splitB_all ⟨#[59, 32]⟩ (by decide) 0 _ s rfl
  have h2 := Lib.countB_le ⟨#[59, 32]⟩ (by decide) s.size s (Nat.le_refl _)
  exact ⟨h1, by rw [spl2, h1]; omega⟩
/-- Faces as bytes. -/
def fcs (b : ByteArray) : List Int := b.data.toList.map fun c => (c.toNat : Int) - 48
theorem fcs_join {fs : List Int} (h : ∀ j, j < fs.length → 0 ≤ intAt fs j ∧ intAt fs j ≤ 7) : fcs (joinT fs ⟨#[]⟩) = fs := by
  have h' : ∀ x ∈ fs, 0 ≤ x ∧ x ≤ 7 := by
    intro x hx
    obtain ⟨j, hj, rfl⟩ := List.getElem_of_mem hx
    have := h j hj
    rwa [intAt_lt hj] at this
  clear h
  have key : ∀ (l : List Int), (∀ x ∈ l, 0 ≤ x ∧ x ≤ 7) → ((Lib.joinTail [] (l.map fun q => (numT q.toNat).data.toList)).map fun c : UInt8 => (c.toNat : Int) - 48) = l := by
    intro l
    induction l with
    | nil => intro _; rfl
    | cons x r ih =>
      intro hl
      have hx := hl x (by simp)
      have ihr := ih (fun y hy => hl y (List.mem_cons_of_mem _ hy))
      have hd : Lib.decDigits x.toNat = [UInt8.ofNat (48 + x.toNat)] := by rw [Lib.decDigits, dif_pos (by omega)]
      have hb : ((UInt8.ofNat (48 + x.toNat)).toNat : Int) - 48 = x := by
        have : (UInt8.ofNat (48 + x.toNat)).toNat = 48 + x.toNat := by
          rw [UInt8.toNat_ofNat']; omega
        omega
      simp only [Lib.joinTail, List.map_cons, List.nil_append, List.flatten_cons, List.map_append] at ihr ⊢
      rw [ihr]
      have e : (numT x.toNat).data.toList = [UInt8.ofNat (48 + x.toNat)] := by simp [numT, hd]
      rw [e]
      simp only [List.map_cons, List.map_nil, hb]
      rfl
  cases fs with
  | nil => simp [fcs, joinT, numW, Lib.join_nil]
  | cons x r =>
    have hx := key (x :: r) h'
    simp only [Lib.joinTail, List.map_cons, List.nil_append, List.flatten_cons] at hx
    simp only [fcs, joinT, numW, List.map_cons, Lib.join_cons, List.map_map]
    rw [← hx]
    simp [Lib.joinTail, Function.comp_def]
def entW (v : Ev) : ByteArray := mkB (Lib.join (entL v) [32])
def entW1 (v : Ev) : ByteArray := mkB (32 :: Lib.join (entL v) [32])
/-- The text is that of a valid element. -/
def CanE (s : ByteArray) (u : Nat) (es : List Ev) : Prop := elB (u : Int) es = true ∧ entsT u es = s
theorem mkB_list (l : List UInt8) : (mkB l).data.toList = l := by simp [mkB]
section
variable {s : ByteArray} {u : Nat} {es : List Ev}
theorem CanE.list (h : CanE s u es) : s.data.toList = Lib.join (Lib.decDigits u :: es.map fun v => Lib.join (entL v) [32]) [59, 32] := by
  rw [← h.2]; exact entsT_list u es
theorem CanE.no59 : ∀ y ∈ (Lib.decDigits u :: es.map fun v => Lib.join (entL v) [32]), (59 : UInt8) ∉ y := by
  intro y hy
  rcases List.mem_cons.1 hy with rfl | hy
  · exact digits_no (by decide)
  · obtain ⟨x, _, rfl⟩ := List.mem_map.1 hy
    exact ent_no59 x
theorem CanE.parts (h : CanE s u es) : spl2 s = numT u :: es.map entW := by
  have h1 := splitK_join (Lib.decDigits u) (es.map fun v => Lib.join (entL v) [32]) CanE.no59
  rw [← h.list] at h1
  rw [spl2_of h1]
  simp only [List.map_cons, List.map_map]
  rfl
theorem join_two (x : List UInt8) (r : List (List UInt8)) : Lib.join (x :: r) [59, 32] = Lib.join (x :: r.map fun y => (32 : UInt8) :: y) [59] := by
  rw [Lib.join_cons, Lib.join_cons]
  congr 1
  simp [Lib.joinTail, Function.comp_def]
theorem CanE.parts1 (h : CanE s u es) : splB 59 s = numT u :: es.map entW1 := by
  have hl := h.list
  rw [join_two] at hl
  rw [splB, hl, splL_of_join]
  · simp only [List.map_cons, List.map_map]
    rfl
  · intro y hy
    rcases List.mem_cons.1 hy with rfl | hy
    · exact digits_no (by decide)
    · simp only [List.map_map, List.mem_map] at hy
      obtain ⟨x, _, rfl⟩ := hy
      intro hm
      simp only [Function.comp_apply, List.mem_cons] at hm
      rcases hm with hm | hm
      · revert hm; decide
      · exact ent_no59 x hm
theorem ent_words (v : Ev) : splB 32 (entW v) = (entL v).map mkB := by
  rw [splB, entW, mkB_list, splL_ent]
theorem ent_words1 (v : Ev) : splB 32 (entW1 v) = mkB [] :: (entL v).map mkB := by
  rw [splB, entW1, mkB_list, splL, if_pos rfl, splL_ent]; rfl
theorem CanE.ev (h : CanE s u es) : ∀ v ∈ es, ∃ a b, evOk v a b := by
  intro v hv
  obtain ⟨k, hk, rfl⟩ := List.getElem_of_mem hv
  have := (el_facts h.1).2.2 k hk
  rwa [evAt_lt hk] at this
theorem CanE.len (h : CanE s u es) : es.length ≤ 5 := (el_facts h.1).2.1
theorem CanE.u_le (h : CanE s u es) : u ≤ 9999 := by
  obtain ⟨⟨x, hx, hx2⟩, _⟩ := el_facts h.1
  omega
theorem CanE.num (h : CanE s u es) : IsNum (numT u) u := ⟨by omega, by have := h.u_le; omega, numZ_nat u⟩
theorem num_of {a : Nat} (h : a ≤ 999999) : IsNum (numT a) a := ⟨by omega, by omega, numZ_nat a⟩
theorem CanE.size (h : CanE s u es) : s.size ≤ 200 := by
  have hu := h.u_le
  have h5 := h.len
  have hd := decDigits_le 4 u (by omega)
  have one : ∀ v ∈ es, (Lib.join (entL v) [32]).length ≤ 29 := by
    intro v hv
    obtain ⟨a, b, e1, e2, l1, l2, l3, l4⟩ := h.ev v hv
    have d1 := decDigits_le 4 v.num.toNat (by omega)
    have d2 := decDigits_le 4 v.unt.toNat (by omega)
    have d3 : (joinT v.fs ⟨#[]⟩).data.toList.length ≤ 7 := by
      have := congrArg List.length (fcs_join l4)
      rw [fcs, List.length_map] at this
      omega
    simp only [entL, Lib.join_cons, Lib.joinTail, List.map_cons, List.map_nil, List.flatten_cons, List.flatten_nil, List.length_append, List.length_cons, List.length_nil]
    omega
  have hj : ∀ (l : List Ev), (∀ v ∈ l, (Lib.join (entL v) [32]).length ≤ 29) → (Lib.joinTail [59, 32] (l.map fun v => Lib.join (entL v) [32])).length ≤ 31 * l.length := by
    intro l
    induction l with
    | nil => intro _; simp [Lib.joinTail]
    | cons x r ih =>
      intro hl
      have h1 := ih (fun y hy => hl y (List.mem_cons_of_mem _ hy))
      have h2 := hl x (by simp)
      simp only [Lib.joinTail, List.map_cons, List.flatten_cons, List.length_append, List.length_cons, List.length_nil] at h1 ⊢
      omega
  have := hj es one
  have hl : s.data.toList.length = s.size := by simp
  rw [← hl, h.list, Lib.join_cons, List.length_append]
  omega
end
/-- What the program reads of an entry's text. -/
def iW (p : ByteArray) : List ByteArray := splB 32 p
noncomputable def iB (p : ByteArray) : Bool := decide ((splB 32 p).length = 5) && (rdB (strAt (splB 32 p) 0) && rdB (strAt (splB 32 p) 4))
noncomputable def iV (p : ByteArray) : Ev := ⟨rdV (strAt (splB 32 p) 0), rdV (strAt (splB 32 p) 4), fcs (strAt (splB 32 p) 2)⟩
/-- What the reference reads of an entry's text. -/
noncomputable def sO (p : ByteArray) : Bool := rdB (strAt (splB 32 p) 1) && rdB (strAt (splB 32 p) 5)
noncomputable def sV (p : ByteArray) : Ev := ⟨rdV (strAt (splB 32 p) 1), rdV (strAt (splB 32 p) 5), fcs (strAt (splB 32 p) 3)⟩
theorem iV_ent {v : Ev} {a b : Nat} (h : evOk v a b) : iB (entW v) = true ∧ iV (entW v) = v := by
  obtain ⟨e1, e2, l1, l2, l3, l4⟩ := h
  have hw := ent_words v
  have w0 : strAt (splB 32 (entW v)) 0 = numT v.num.toNat := by rw [hw]; rfl
  have w4 : strAt (splB 32 (entW v)) 4 = numT v.unt.toNat := by rw [hw]; rfl
  have w2 : strAt (splB 32 (entW v)) 2 = joinT v.fs ⟨#[]⟩ := by rw [hw]; exact mkB_data _
  have n0 := rd_yes (num_of (a := v.num.toNat) (by omega))
  have n4 := rd_yes (num_of (a := v.unt.toNat) (by omega))
  have hl : (splB 32 (entW v)).length = 5 := by rw [hw]; rfl
  refine ⟨by simp [iB, hl, w0, w4, n0.1, n4.1], ?_⟩
  obtain ⟨x, y, fs⟩ := v
  dsimp only at *
  simp only [iV, w0, w4, w2, n0.2, n4.2, fcs_join l4]
  congr 1 <;> omega
theorem sV_ent {v : Ev} {a b : Nat} (h : evOk v a b) : (splB 32 (entW1 v)).length = 6 ∧ sO (entW1 v) = true ∧ sV (entW1 v) = v := by
  obtain ⟨e1, e2, l1, l2, l3, l4⟩ := h
  have hw := ent_words1 v
  have w0 : strAt (splB 32 (entW1 v)) 1 = numT v.num.toNat := by rw [hw]; rfl
  have w4 : strAt (splB 32 (entW1 v)) 5 = numT v.unt.toNat := by rw [hw]; rfl
  have w2 : strAt (splB 32 (entW1 v)) 3 = joinT v.fs ⟨#[]⟩ := by rw [hw]; exact mkB_data _
  have n0 := rd_yes (num_of (a := v.num.toNat) (by omega))
  have n4 := rd_yes (num_of (a := v.unt.toNat) (by omega))
  have hl : (splB 32 (entW1 v)).length = 6 := by rw [hw]; rfl
  refine ⟨hl, by simp [sO, w0, w4, n0.1, n4.1], ?_⟩
  obtain ⟨x, y, fs⟩ := v
  dsimp only at *
  simp only [sV, w0, w4, w2, n0.2, n4.2, fcs_join l4]
  congr 1 <;> omega

open Classical in
noncomputable def peB (s : ByteArray) : Bool := decide (∃ u es, CanE s u es)
open Classical in
noncomputable def peU (s : ByteArray) : Int := if h : ∃ u es, CanE s u es then (h.choose : Int) else 0
open Classical in
noncomputable def peE (s : ByteArray) : List Ev := if h : ∃ u es, CanE s u es then h.choose_spec.choose else []
noncomputable def iE (s : ByteArray) : List Ev := ((spl2 s).drop 1).map iV
noncomputable def sE (s : ByteArray) : List Ev := ((splB 59 s).drop 1).map sV
noncomputable def iC (s : ByteArray) : Int := rdV (strAt (spl2 s) 0)
noncomputable def sC (s : ByteArray) : Int := rdV (strAt (splB 59 s) 0)
section
variable {s : ByteArray} {u : Nat} {es : List Ev}
theorem CanE.impl (h : CanE s u es) : rdB (strAt (spl2 s) 0) = true ∧ iC s = u ∧ iE s = es ∧ ∀ k, k + 1 < (spl2 s).length → iB (strAt (spl2 s) (k + 1)) = true := by
  have hp := h.parts
  have h0 : strAt (spl2 s) 0 = numT u := by rw [hp]; rfl
  have hn := rd_yes h.num
  refine ⟨by rw [h0]; exact hn.1, by rw [iC, h0]; exact hn.2, ?_, fun k hk => ?_⟩
  · rw [iE, hp]
    simp only [List.drop_succ_cons, List.drop_zero, List.map_map]
    conv => rhs; rw [← List.map_id es]
    apply List.map_congr_left
    intro v hv
    obtain ⟨a, b, hx⟩ := h.ev v hv
    exact (iV_ent hx).2
  · rw [hp] at hk ⊢
    simp only [List.length_cons, List.length_map] at hk
    have hk2 : k < es.length := by omega
    have e : strAt (numT u :: es.map entW) (k + 1) = entW es[k] := by simp [strAt, hk2]
    rw [e]
    obtain ⟨a, b, hx⟩ := h.ev _ (List.getElem_mem hk2)
    exact (iV_ent hx).1
theorem CanE.spec (h : CanE s u es) : rdB (strAt (splB 59 s) 0) = true ∧ sC s = u ∧ sE s = es ∧ ∀ k, k + 1 < (splB 59 s).length → (splB 32 (strAt (splB 59 s) (k + 1))).length = 6 ∧ sO (strAt (splB 59 s) (k + 1)) = true := by
  have hp := h.parts1
  have h0 : strAt (splB 59 s) 0 = numT u := by rw [hp]; rfl
  have hn := rd_yes h.num
  refine ⟨by rw [h0]; exact hn.1, by rw [sC, h0]; exact hn.2, ?_, fun k hk => ?_⟩
  · rw [sE, hp]
    simp only [List.drop_succ_cons, List.drop_zero, List.map_map]
    conv => rhs; rw [← List.map_id es]
    apply List.map_congr_left
    intro v hv
    obtain ⟨a, b, hx⟩ := h.ev v hv
    exact (sV_ent hx).2.2
  · rw [hp] at hk ⊢
    simp only [List.length_cons, List.length_map] at hk
    have hk2 : k < es.length := by omega
    have e : strAt (numT u :: es.map entW1) (k + 1) = entW1 es[k] := by simp [strAt, hk2]
    rw [e]
    obtain ⟨a, b, hx⟩ := h.ev _ (List.getElem_mem hk2)
    exact ⟨(sV_ent hx).1, (sV_ent hx).2.1⟩
theorem CanE.uniq {u' : Nat} {es' : List Ev} (h : CanE s u es) (h' : CanE s u' es') : u = u' ∧ es = es' := by
  have h1 := h.impl
  have h2 := h'.impl
  exact ⟨by have := h1.2.1.symm.trans h2.2.1; omega, h1.2.2.1.symm.trans h2.2.2.1⟩
theorem pe_yes (h : CanE s u es) : peB s = true ∧ peU s = u ∧ peE s = es := by
  have he : ∃ u es, CanE s u es := ⟨u, es, h⟩
  refine ⟨by simp [peB, he], ?_, ?_⟩
  · rw [peU, dif_pos he]
    obtain ⟨ts', hc⟩ := he.choose_spec
    rw [(hc.uniq h).1]
  · rw [peE, dif_pos he]
    exact (he.choose_spec.choose_spec.uniq h).2
theorem pe_no (h : ∀ u es, ¬ CanE s u es) : peB s = false ∧ peU s = 0 ∧ peE s = [] := by
  have he : ¬ ∃ u es, CanE s u es := fun ⟨u, ts, hc⟩ => h u ts hc
  exact ⟨by simp [peB, h], by rw [peU, dif_neg he], by rw [peE, dif_neg he]⟩
theorem peE_fit (s : ByteArray) : (peE s).length ≤ 5 ∧ ∀ v ∈ peE s, v.fs.length ≤ 7 := by
  by_cases he : ∃ u es, CanE s u es
  · obtain ⟨u, es, h⟩ := he
    rw [(pe_yes h).2.2]
    exact ⟨h.len, fun v hv => let ⟨_, _, hx⟩ := h.ev v hv; hx.2.2.2.2.1⟩
  · rw [(pe_no fun u ts hc => he ⟨u, ts, hc⟩).2.2]
    exact ⟨by simp, fun v hv => absurd hv (by simp)⟩
theorem canE_of {n : Int} (hr : elB n es = true) (he : entsT n.toNat es = s) : CanE s n.toNat es := by
  obtain ⟨⟨x, rfl, _⟩, _⟩ := el_facts hr
  exact ⟨by simpa using hr, he⟩
end
end Go.Proofs.YtajfmfeegiicaaaDoor
