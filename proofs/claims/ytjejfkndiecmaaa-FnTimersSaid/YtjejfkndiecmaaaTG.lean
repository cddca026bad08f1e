
/- What the law of running timers asks: plain facts. -/
import Derived.Test.YtjejfkndiecmaaaTF
namespace Go.Proofs.Ytjejfkndiecmaaa
theorem mem_dueL {ts : List Timer} (ha : ts.Pairwise (fun a b => a.id < b.id)) {now x : Int} : x ∈ dueL ts now ↔ ∃ t ∈ ts, t.due ≤ now ∧ t.id = x := by
  simp only [dueL, List.mem_map, List.mem_filter, dueF, decide_eq_true_eq]
  constructor
  · rintro ⟨t, ⟨h1, h2⟩, h3⟩; exact ⟨t, (sortD_perm ha).mem_iff.1 h1, h2, h3⟩
  · rintro ⟨t, h1, h2, h3⟩; exact ⟨t, ⟨(sortD_perm ha).mem_iff.2 h1, h2⟩, h3⟩
theorem dueL_cnt {ts : List Timer} (ha : ts.Pairwise (fun a b => a.id < b.id)) (now : Int) : (dueL ts now).length = (ts.filter (dueF now)).length := by
  simp only [dueL, List.length_map]
  exact ((sortD_perm ha).filter _).length_eq
theorem dueL_nil {ts : List Timer} (ha : ts.Pairwise (fun a b => a.id < b.id)) {now : Int} (h : ¬ (0 < ts.length ∧ (tAt (sortD ts) 0).due ≤ now)) : dueL ts now = [] := by
  have hl := sortD_len ha
  rw [dueL, due_split (k := 0) (sortD_sorted ha) (by simp)]
  · simp
  · intro hk
    have : ¬ (tAt (sortD ts) 0).due ≤ now := fun h1 => h ⟨by omega, h1⟩
    rw [tAt_lt hk] at this
    omega
theorem dueL_head {ts : List Timer} (ha : ts.Pairwise (fun a b => a.id < b.id)) {now : Int} (h0 : 0 < ts.length) (h : (tAt (sortD ts) 0).due ≤ now) : ∃ r, dueL ts now = (tAt (sortD ts) 0).id :: r := by
  have hl := sortD_len ha
  cases hq : sortD ts with
  | nil => rw [hq] at hl; simp at hl; omega
  | cons f S =>
    rw [hq] at h
    have e : tAt (f :: S) 0 = f := rfl
    rw [e] at h ⊢
    exact ⟨_, by rw [dueL, hq, List.filter_cons_of_pos (by simpa [dueF] using h)]; rfl⟩
/-- What a firing leaves: all others; the count of what is due falls by one at most. -/
theorem fireT_keeps {ts : List Timer} (hg : goodT ts = true) {p : Nat} (hp : p < ts.length) {t : Timer} (ht : t ∈ ts) (hne : t.id ≠ (tAt ts p).id) : t ∈ fireT ts p := by
  by_cases h : (tAt ts p).per = 0 ∨ 10000 < (tAt ts p).due + (tAt ts p).per
  · rw [fireT_del h, ← wo_at hg hp rfl]
    exact List.mem_filter.2 ⟨ht, by simpa [notId] using hne⟩
  · rw [fireT_set h]
    obtain ⟨q, hq, rfl⟩ := List.mem_iff_getElem.1 ht
    have hqp : p ≠ q := fun e => by subst e; rw [tAt_lt hp] at hne; exact hne rfl
    rw [List.mem_iff_getElem]
    exact ⟨q, by simpa using hq, by rw [List.getElem_set_ne hqp]⟩
theorem fireT_cnt {ts : List Timer} (hg : goodT ts = true) {p : Nat} (hp : p < ts.length) (now : Int) : (ts.filter (dueF now)).length ≤ ((fireT ts p).filter (dueF now)).length + 1 := by
  have e : ts = ts.take p ++ ts[p] :: ts.drop (p + 1) := by rw [← List.drop_eq_getElem_cons hp, List.take_append_drop]
  have h1 : (ts.filter (dueF now)).length ≤ ((ts.take p).filter (dueF now)).length + ((ts.drop (p + 1)).filter (dueF now)).length + 1 := by
    conv => lhs; rw [e]
    rw [List.filter_append, List.length_append, List.filter_cons]
    split
    · simp; omega
    · omega
  by_cases h : (tAt ts p).per = 0 ∨ 10000 < (tAt ts p).due + (tAt ts p).per
  · rw [fireT_del h, List.filter_append, List.length_append]; exact h1
  · rw [fireT_set h, List.set_eq_take_append_cons_drop, if_pos hp, List.filter_append, List.length_append, List.filter_cons]
    split
    · simp; omega
    · omega
structure RunOk (ts : List Timer) (now : Int) (rs : List Timer) (fd : List Int) : Prop where
  good : goodT rs = true
  stop : ¬ (0 < rs.length ∧ (tAt (sortD rs) 0).due ≤ now)
  all : ∀ x ∈ dueL ts now, x ∈ fd
  cnt : (ts.filter (dueF now)).length ≤ fd.length
  hd : fd = [] ∧ dueL ts now = [] ∨ ∃ x r s, fd = x :: r ∧ dueL ts now = x :: s
theorem runT_ok {now : Int} (f : Nat) : ∀ (ts : List Timer) (is : List Int), goodT ts = true → (runT now f ts is).2.2 = true → ∃ fd, (runT now f ts is).2.1 = is ++ fd ∧ RunOk ts now (runT now f ts is).1 fd := by
  have stopped : ∀ (ts : List Timer) (is : List Int), goodT ts = true → ¬ (0 < ts.length ∧ (tAt (sortD ts) 0).due ≤ now) → ∃ fd, is = is ++ fd ∧ RunOk ts now ts fd := fun ts is hg h => by
    have hn := dueL_nil (goodT_asc hg) h
    refine ⟨[], by simp, hg, h, by simp [hn], ?_, .inl ⟨rfl, hn⟩⟩
    rw [← dueL_cnt (goodT_asc hg) now, hn]
    exact Nat.le_refl _
  induction f with
  | zero =>
    intro ts is hg hok
    by_cases h : 0 < ts.length ∧ (tAt (sortD ts) 0).due ≤ now
    · rw [runT_full h] at hok; cases hok
    · rw [runT_stop h]; exact stopped ts is hg h
  | succ f ih =>
    intro ts is hg hok
    by_cases h : 0 < ts.length ∧ (tAt (sortD ts) 0).due ≤ now
    · have ha := goodT_asc hg
      have ⟨hp, hfe⟩ := first_mem ha h.1
      rw [runT_step h] at hok ⊢
      obtain ⟨fd, e, r⟩ := ih _ _ (fireT_good hg hp) hok
      obtain ⟨s, hs⟩ := dueL_head ha h.1 h.2
      refine ⟨(tAt (sortD ts) 0).id :: fd, by rw [e]; simp, r.good, r.stop, fun x hx => ?_, ?_, .inr ⟨_, _, s, rfl, hs⟩⟩
      · obtain ⟨t, ht, hd, rfl⟩ := (mem_dueL ha).1 hx
        by_cases he : t.id = (tAt (sortD ts) 0).id
        · rw [he]; simp
        · refine List.mem_cons_of_mem _ (r.all _ ((mem_dueL (goodT_asc (fireT_good hg hp))).2 ⟨t, fireT_keeps hg hp ht (by rw [hfe]; exact he), hd, rfl⟩))
      · have h1 := fireT_cnt hg hp now
        have h2 := r.cnt
        simp; omega
    · rw [runT_stop h]; exact stopped ts is hg h
structure RunFacts (ts : List Timer) (now : Int) : Prop where
  due : dueB ts now = true
  good : goodT (runR ts now).1 = true
  due2 : dueB (runR ts now).1 now = true
  none : dueR (runR ts now).1 now = []
  len : (dueR ts now).length ≤ (runR ts now).2.1.length
  hd : (runR ts now).2.1 = [] ∧ dueR ts now = [] ∨ ∃ x r s, (runR ts now).2.1 = x :: r ∧ dueR ts now = x :: s
  all : ∀ x ∈ dueR ts now, x ∈ (runR ts now).2.1
theorem run_facts {ts : List Timer} {now : Int} (h : (runR ts now).2.2 = true) : RunFacts ts now := by
  by_cases hd : dueB ts now = true
  · have hd' := hd
    simp only [dueB, Bool.and_eq_true] at hd
    have e : runR ts now = runT now 50 ts [] := by unfold runR; rw [if_pos (by simp [hd])]
    rw [e] at h
    obtain ⟨fd, ef, r⟩ := runT_ok 50 ts [] hd.1 h
    simp only [List.nil_append] at ef
    have ed : dueR ts now = dueL ts now := due_yes hd'
    have hd2 : dueB (runR ts now).1 now = true := by rw [e]; simp [dueB, r.good, hd.2]
    refine ⟨hd', by rw [e]; exact r.good, hd2, ?_, ?_, ?_, ?_⟩
    · rw [due_yes hd2, e]; exact dueL_nil (goodT_asc r.good) r.stop
    · rw [e, ef, ed, dueL_cnt (goodT_asc hd.1)]; exact r.cnt
    · rw [e, ef, ed]; exact r.hd
    · rw [e, ef, ed]; exact r.all
  · have e : runR ts now = ([], [], false) := run_no (by simpa using hd)
    rw [e] at h; cases h
end Go.Proofs.Ytjejfkndiecmaaa
