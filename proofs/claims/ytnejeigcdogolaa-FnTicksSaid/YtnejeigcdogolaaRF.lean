
/- What the laws of requests ask of the functions: plain facts. -/
import Derived.Test.YtnejeigcdogolaaR13
import Derived.Test.YtnejeigcdogolaaR11
import Derived.Test.YtnejeigcdogolaaR6
import Derived.Test.YtnejeigcdogolaaR4
import Derived.Test.YtnejeigcdogolaaR3
import Derived.Test.YtnejeigcdogolaaTH
namespace Go.Proofs.Ytnejeigcdogolaa
theorem num_inj {ts : List Request} {base : Int} (hg : goodR ts base = true) {i j : Nat} (hi : i < ts.length) (hj : j < ts.length) (he : (requestAt ts i).number = (requestAt ts j).number) : i = j := by
  rcases Nat.lt_trichotomy i j with h | h | h
  · have := goodR_lt hg h hj; rw [he] at this; omega
  · exact h
  · have := goodR_lt hg h hi; rw [he] at this; omega
theorem has_num {ts : List Request} {base : Int} (hg : goodR ts base = true) (p : Request → Bool) {i : Nat} (hi : i < ts.length) : hasI ((ts.filter p).map (·.number)) (requestAt ts i).number = p (requestAt ts i) := by
  rw [Bool.eq_iff_iff]
  simp only [hasI, decide_eq_true_eq, List.mem_map, List.mem_filter]
  constructor
  · rintro ⟨t, ⟨h1, h2⟩, h3⟩
    obtain ⟨j, hj, rfl⟩ := List.mem_iff_getElem.1 h1
    have : j = i := num_inj hg hj hi (by rw [requestAt_lt hj]; exact h3)
    subst this
    rw [requestAt_lt hj]; exact h2
  · intro h
    exact ⟨_, ⟨by rw [requestAt_lt hi]; exact List.getElem_mem _, h⟩, rfl⟩
def dueP (clock : Int) (r : Request) : Bool := decide (r.til ≤ clock)
theorem dueK_filter (ts : List Request) (clock : Int) (k : Nat) (hk : k ≤ ts.length) : dueK ts clock k = ((ts.take k).filter (dueP clock)).map (·.number) := by
  induction k with
  | zero => simp [dueK]
  | succ k ih =>
    rw [dueK, ih (by omega), List.take_succ_eq_append_getElem (by omega), List.filter_append, List.map_append, requestAt_lt (by omega)]
    congr 1
    by_cases h : ts[k].til ≤ clock
    · simp [dueP, h]
    · simp [dueP, h]
theorem dueN_yes {ts : List Request} {base clock : Int} (hg : goodR ts base = true) (hc : inR clock 0 9999 = true) : dueN ts base clock = (ts.filter (dueP clock)).map (·.number) := by
  unfold dueN
  rw [if_pos ⟨hg, hc⟩, dueK_filter _ _ _ (Nat.le_refl _), List.take_length]
theorem tkKeep_num {clock delay : Int} {r t : Request} (h : tkKeep clock delay r = some t) : t.number = r.number := by
  unfold tkKeep at h
  split at h
  · cases h; rfl
  · split at h
    · cases h
    · split at h <;> cases h <;> rfl
theorem tkKeep_ok {clock delay base : Int} {r t : Request} (hc : 0 ≤ clock ∧ clock ≤ 9999) (hd : 1 ≤ delay ∧ delay ≤ 8) (ho : okReq r base = true) (h : tkKeep clock delay r = some t) : okReq t base = true ∧ clock < t.til := by
  have hb := okReq_bd ho
  unfold tkKeep at h
  split at h
  · cases h; rename_i h1; exact ⟨ho, h1⟩
  · split at h
    · cases h
    · split at h
      · cases h
        simp only [okReq, Bool.and_eq_true, inR_iff, decide_eq_true_eq]
        omega
      · cases h
        simp only [okReq, Bool.and_eq_true, inR_iff, decide_eq_true_eq]
        omega
theorem tkKeep_none {clock delay : Int} {r : Request} : tkKeep clock delay r = none ↔ tkLost clock r = true := by
  unfold tkKeep tkLost
  by_cases h1 : clock < r.til
  · simp [h1]
  · by_cases h2 : r.tries = 3
    · simp [h1, h2]
    · by_cases h3 : r.state = 1
      · simp [h1, h2, h3]
      · simp [h1, h2, h3]
theorem tk_count (ts : List Request) (clock delay : Int) : (tkOut ts clock delay).length + (tkL ts clock).length = ts.length := by
  induction ts with
  | nil => simp [tkOut, tkL]
  | cons r ts ih =>
    simp only [tkOut, tkL, List.filterMap_cons, List.filter_cons, List.length_map] at ih ⊢
    by_cases h : tkLost clock r = true
    · rw [tkKeep_none.2 h, if_pos h]
      simp at ih ⊢; omega
    · cases hk : tkKeep clock delay r with
      | none => exact absurd (tkKeep_none.1 hk) h
      | some t =>
        rw [if_neg h]
        simp at ih ⊢; omega
theorem tick_facts {ts : List Request} {base clock delay : Int} (h : tikB ts base clock delay = true) :
    goodR ts base = true ∧ inR clock 0 9999 = true ∧ goodR (tikO ts base clock delay) base = true ∧ dueN (tikO ts base clock delay) base clock = [] ∧ (tikO ts base clock delay).length + (tikL ts base clock delay).length = ts.length := by
  obtain ⟨e1, e2, e3⟩ := tik_yes h
  simp only [tikB, Bool.and_eq_true] at h
  obtain ⟨hg, hc, hd⟩ := h
  have hc' := inR_iff.1 hc
  have hd' := inR_iff.1 hd
  have ⟨b1, b2, b3⟩ := goodR_iff2.1 hg
  have hm : ∀ t ∈ tkOut ts clock delay, okReq t base = true ∧ clock < t.til := fun t ht => by
    obtain ⟨r, hr, hk⟩ := List.mem_filterMap.1 ht
    exact tkKeep_ok hc' hd' (b2 r hr) hk
  have hgm : goodR (tkOut ts clock delay) base = true := by
    refine goodR_iff2.2 ⟨b1, fun t ht => (hm t ht).1, ?_⟩
    unfold tkOut
    refine List.Pairwise.filterMap _ (fun a a' hlt b hb b' hb' => ?_) b3
    unfold ltG at hlt ⊢
    rw [tkKeep_num hb, tkKeep_num hb']
    exact hlt
  rw [e1, e3]
  refine ⟨hg, hc, hgm, ?_, tk_count ts clock delay⟩
  rw [dueN_yes hgm hc, List.map_eq_nil_iff, List.filter_eq_nil_iff]
  intro t ht
  have := (hm t ht).2
  simp [dueP]; omega
theorem tick_each {ts : List Request} {base clock delay : Int} (h : tikB ts base clock delay = true) {i : Nat} (hi : i < ts.length) :
    ∃ u v : Bool, hasI (tikL ts base clock delay) (requestAt ts i).number = (u && decide ((requestAt ts i).tries = 3)) ∧ hasI (tikS ts base clock delay) (requestAt ts i).number = (u && (!decide ((requestAt ts i).tries = 3) && v)) ∧ hasI (dueN ts base clock) (requestAt ts i).number = u := by
  obtain ⟨e1, e2, e3⟩ := tik_yes h
  simp only [tikB, Bool.and_eq_true] at h
  obtain ⟨hg, hc, hd⟩ := h
  refine ⟨dueP clock (requestAt ts i), decide ((requestAt ts i).state = 1), ?_, ?_, ?_⟩
  · rw [e3, tkL, has_num hg _ hi]
    simp only [tkLost, dueP, Int.not_lt]
  · rw [e2, tkS, has_num hg _ hi]
    simp only [tkSent, dueP, Int.not_lt]
    by_cases h3 : (requestAt ts i).tries = 3 <;> simp [h3]
  · rw [dueN_yes hg hc, has_num hg _ hi]
theorem cnt_sum {ts : List Request} {base : Int} (hg : goodR ts base = true) (k : Nat) (hk : k ≤ ts.length) : cntS ts 1 k + cntS ts 2 k + cntS ts 3 k = k := by
  induction k with
  | zero => simp [cntS]
  | succ k ih =>
    have h1 := ih (by omega)
    have hb := (goodR_bd hg (show k < ts.length by omega)).2.2.1
    simp only [cntS]
    have : (requestAt ts k).state = 1 ∨ (requestAt ts k).state = 2 ∨ (requestAt ts k).state = 3 := by omega
    rcases this with e | e | e <;> simp [e] <;> omega
theorem count_facts {ts : List Request} {base : Int} (hg : goodR ts base = true) : stateCounts ts base ts.length 1 + stateCounts ts base ts.length 2 + stateCounts ts base ts.length 3 = ts.length := by
  simp only [stateCounts, hg, if_true]
  exact cnt_sum hg _ (Nat.le_refl _)
theorem move_facts {ts : List Request} {base next : Int} (h : moveB ts base next = true) : goodR (moveR ts base next) next = true := by
  have h' := h
  simp only [moveB, moveC, Bool.and_eq_true] at h'
  unfold moveR
  rw [if_pos (show moveC ts base next = true from h)]
  exact h'.2
theorem not_has {ts : List Request} {base number : Int} (hg : goodR ts base = true) (hn : inR number 0 65535 = true) (h : hasR ts base number = false) : ∀ t ∈ ts, t.number ≠ number := by
  intro t ht he
  obtain ⟨j, hj, rfl⟩ := List.mem_iff_getElem.1 ht
  have hn' := inR_iff.1 hn
  have hp : posR ts base number ≤ j := by
    rcases Nat.lt_or_ge j (posR ts base number) with h1 | h1
    · have := posR_lo h1; rw [requestAt_lt hj, he] at this; omega
    · exact h1
  have hpl : posR ts base number < ts.length := by omega
  have h1 := posR_at hpl
  have h2 : gapI base (requestAt ts (posR ts base number)).number = gapI base number := by
    rcases Nat.lt_or_ge (posR ts base number) j with h3 | h3
    · have := goodR_lt hg h3 hj; rw [requestAt_lt hj, he] at this; omega
    · have : posR ts base number = j := by omega
      rw [this, requestAt_lt hj, he]
  have hb := (goodR_bd hg hpl).1
  have h3 := (gapI_inj (base := base) hb.1 hb.2 hn'.1 hn'.2).1 h2
  have : hasR ts base number = true := by simp [hasR, hpl, h3]
  rw [h] at this; cases this
theorem add_facts {ts : List Request} {base number clock delay : Int} (h : addB ts base number clock delay = true) : goodR (addR ts base number clock delay) base = true ∧ dropB (addR ts base number clock delay) base number = true ∧ dropR (addR ts base number clock delay) base number = ts := by
  rw [add_yes h]
  simp only [addB, addC, Bool.and_eq_true, Bool.not_eq_true', decide_eq_true_eq] at h
  obtain ⟨⟨⟨hg, hn⟩, hc, hd⟩, hh, hgap⟩ := h
  have hga : goodR (addL ts base number clock delay) base = true := by rw [addL_good hg hn hc hd hh]; simpa using hgap
  refine ⟨hga, by simp [dropB, hga, hn], ?_⟩
  unfold dropR
  rw [if_pos ⟨hga, hn⟩]
  have hno := not_has hg hn hh
  unfold leave addL
  rw [List.filter_append, List.filter_append]
  have e1 : (ts.take (posR ts base number)).filter (fun t => !numIs number t) = ts.take (posR ts base number) := by
    rw [List.filter_eq_self]; intro t ht; have := hno t (List.mem_of_mem_take ht); simpa [numIs] using this
  have e2 : (ts.drop (posR ts base number)).filter (fun t => !numIs number t) = ts.drop (posR ts base number) := by
    rw [List.filter_eq_self]; intro t ht; have := hno t (List.mem_of_mem_drop ht); simpa [numIs] using this
  have e3 : [newReq number clock delay].filter (fun t => !numIs number t) = [] := by simp [numIs, newReq]
  rw [e1, e2, e3, List.append_nil, List.take_append_drop]
theorem conf_facts {ts : List Request} {base number clock : Int} (h : confB ts base number clock = true) : (0 ≤ clock ∧ clock ≤ 9999) ∧ (confR ts base number clock).length = ts.length ∧
    ∀ i, i < ts.length → ((requestAt (confR ts base number clock) i).number = number → (requestAt (confR ts base number clock) i).state = 3 ∧ (requestAt (confR ts base number clock) i).til = clock + 4 ∧ (requestAt (confR ts base number clock) i).tries = (requestAt ts i).tries) ∧
      ((requestAt (confR ts base number clock) i).number ≠ number → requestAt (confR ts base number clock) i = requestAt ts i) := by
  have h' := h
  simp only [confB, confC, Bool.and_eq_true] at h'
  obtain ⟨⟨hg, hn⟩, hc⟩ := h'
  have e : confR ts base number clock = confL ts base number clock := by unfold confR; rw [if_pos (show confC ts base number clock = true from h)]
  rw [e]
  refine ⟨inR_iff.1 hc, confL_len _ _ _ _, fun i hi => ?_⟩
  unfold confL
  cases hh : hasR ts base number
  · simp only [Bool.false_eq_true, if_false]
    have hno := not_has hg hn hh
    refine ⟨fun he => ?_, fun _ => trivial⟩
    rw [requestAt_lt hi] at he
    exact absurd he (hno _ (List.getElem_mem _))
  · simp only [if_true]
    unfold confAt
    simp only [hasR, Bool.and_eq_true, decide_eq_true_eq] at hh
    by_cases hip : i = posR ts base number
    · subst hip
      have e1 : requestAt (ts.set (posR ts base number) ⟨number, 3, clock + 4, (requestAt ts (posR ts base number)).tries⟩) (posR ts base number) = ⟨number, 3, clock + 4, (requestAt ts (posR ts base number)).tries⟩ := by
        rw [requestAt_lt (by simpa using hh.1)]; simp
      rw [e1]
      exact ⟨fun _ => ⟨rfl, rfl, rfl⟩, fun h => absurd rfl h⟩
    · have e1 : requestAt (ts.set (posR ts base number) ⟨number, 3, clock + 4, (requestAt ts (posR ts base number)).tries⟩) i = requestAt ts i := by
        rw [requestAt_lt (by simpa using hi), requestAt_lt hi, List.getElem_set_ne (fun h => hip h.symm)]
      rw [e1]
      refine ⟨fun he => ?_, fun _ => rfl⟩
      exact absurd (num_inj hg hi hh.1 (by rw [he, hh.2])) hip
end Go.Proofs.Ytnejeigcdogolaa
