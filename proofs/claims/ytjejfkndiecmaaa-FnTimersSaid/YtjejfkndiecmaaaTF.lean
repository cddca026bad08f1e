
/- What the laws of timers ask of the functions: plain facts. -/
import Derived.Test.YtjejfkndiecmaaaTS
import Derived.Test.YtjejfkndiecmaaaT8
import Derived.Test.YtjejfkndiecmaaaK5
namespace Go.Proofs.Ytjejfkndiecmaaa
theorem find_some {L : List Timer} {id : Int} : 0 ≤ findI L id ↔ idxT L id < L.length := by
  unfold findI; split
  · rename_i h; simp [h]
  · rename_i h; simp [h]
theorem mem_find {L : List Timer} (hg : goodT L = true) {x : Timer} (hx : x ∈ L) : idxT L x.id < L.length ∧ tAt L (idxT L x.id) = x := by
  have ha := goodT_asc hg
  obtain ⟨q, hq, e⟩ := List.mem_iff_getElem.1 hx
  have h1 : idxT L x.id = q := by
    refine idxT_eq hq (by rw [tAt_lt hq, e]) (fun j hj => ?_)
    have := List.pairwise_iff_getElem.1 ha j q (by omega) hq hj
    rw [tAt_lt (by omega), ← e]; omega
  rw [h1]
  exact ⟨hq, by rw [tAt_lt hq, e]⟩
theorem ticks_mem {L : List Timer} (hg : goodT L = true) {x : Timer} (hx : x ∈ L) : ticksUntil L x.id 0 = (x.due, true) := by
  have ⟨h1, h2⟩ := mem_find hg hx
  have hb := (goodT_bd hg h1).2.1
  unfold ticksUntil
  rw [if_pos ⟨hg, find_some.2 h1, by decide⟩, h2]
  rw [h2] at hb
  rw [Int.sub_zero, Int.max_eq_right hb.1]
theorem ticks_none {L : List Timer} {id : Int} (hn : ∀ x ∈ L, x.id ≠ id) (now : Int) : ticksUntil L id now = (0, false) := by
  unfold ticksUntil
  rw [if_neg]
  rintro ⟨_, h, _⟩
  have h1 := find_some.1 h
  have h2 := idxT_is h1
  rw [tAt_lt h1] at h2
  exact hn _ (List.getElem_mem _) h2
theorem put_mem (ts : List Timer) (t : Timer) : t ∈ putT ts t := by simp [putT]
theorem set_facts {ts : List Timer} {t : Timer} (h : setB ts t = true) : goodT (setR ts t) = true ∧ ticksUntil (setR ts t) t.id 0 = (t.due, true) := by
  have hg : goodT (putT ts t) = true := by
    simp only [setB, Bool.and_eq_true] at h; exact h.2
  rw [set_yes h]
  exact ⟨hg, ticks_mem hg (put_mem ts t)⟩
theorem fire_cases {ts : List Timer} {id : Int} (h : stopB ts id = true) : goodT ts = true ∧ ∃ k, k < ts.length ∧ idxT ts id = k ∧ (tAt ts k).id = id ∧ fireR ts id = fireT ts k := by
  simp only [stopB, Bool.and_eq_true, decide_eq_true_eq] at h
  have h1 := find_some.1 h.2
  exact ⟨h.1, _, h1, rfl, idxT_is h1, by unfold fireR; rw [if_pos h]⟩
theorem fire_facts {ts : List Timer} {id : Int} (h : stopB ts id = true) : (ticksUntil ts id 0).2 = true ∧ ((ticksUntil (fireR ts id) id 0).2 = true → (ticksUntil ts id 0).1 < (ticksUntil (fireR ts id) id 0).1) := by
  obtain ⟨hg, k, hk, hi, hid, hr⟩ := fire_cases h
  have hx : tAt ts k ∈ ts := by rw [tAt_lt hk]; exact List.getElem_mem _
  have e1 : ticksUntil ts id 0 = ((tAt ts k).due, true) := by
    have := ticks_mem hg hx; rw [hid] at this; exact this
  rw [e1, hr]
  refine ⟨rfl, fun h2 => ?_⟩
  by_cases hc : (tAt ts k).per = 0 ∨ 10000 < (tAt ts k).due + (tAt ts k).per
  · rw [fireT_del hc, ← wo_at hg hk rfl, hid, ticks_none (fun x hx => by have := (List.mem_filter.1 hx).2; simpa [notId] using this)] at h2
    cases h2
  · have hgf := fireT_good hg hk
    rw [fireT_set hc] at hgf ⊢
    have hm : (⟨(tAt ts k).id, (tAt ts k).due + (tAt ts k).per, (tAt ts k).per⟩ : Timer) ∈ ts.set k ⟨(tAt ts k).id, (tAt ts k).due + (tAt ts k).per, (tAt ts k).per⟩ := List.mem_set hk _
    have e2 := ticks_mem hgf hm
    simp only [hid] at e2 ⊢
    rw [e2]
    have hb := goodT_bd hg hk
    simp only
    omega
theorem stop_facts {ts : List Timer} {id : Int} (h : stopB ts id = true) : stopB (stopT ts id) id = false ∧ (stopT ts id).length + 1 = ts.length := by
  obtain ⟨hg, k, hk, hi, hid, _⟩ := fire_cases h
  have e : stopT ts id = wo ts id := by
    simp only [stopB, Bool.and_eq_true, decide_eq_true_eq] at h
    simp [stopT, stopB, h]
  rw [e]
  constructor
  · have hn : ¬ 0 ≤ findI (wo ts id) id := fun h3 => by
      have h1 := find_some.1 h3
      have h2 := idxT_is h1
      rw [tAt_lt h1] at h2
      have := (List.mem_filter.1 (List.getElem_mem h1)).2
      simp [notId, h2] at this
    simp [stopB, hn]
  · have h4 := congrArg List.length (wo_at hg hk rfl)
    rw [hid] at h4
    rw [h4]; simp; omega
theorem back_facts {i d p most : Int} (h : (backOff i d p most).2 = true) : p ≤ (backOff i d p most).1.per ∧ (backOff i d p most).1.per ≤ most ∧ (backOff i d p most).1.due = d + (backOff i d p most).1.per ∧ (0 ≤ d ∧ d ≤ 10000) ∧ 0 ≤ (backOff i d p most).1.per ∧ (backOff i d p most).1.per ≤ 10000 := by
  unfold backOff at h ⊢
  split at h
  · rename_i hc
    rw [if_pos hc]
    have h1 := okT_iff.1 hc.1
    have h5 := okT_iff.1 hc.2.2.2.2
    have h3 := hc.2.2.2.1
    have h2 := hc.2.1
    dsimp only
    refine ⟨by omega, by omega, rfl, by omega, by omega, by omega⟩
  · cases h
end Go.Proofs.Ytjejfkndiecmaaa
