
/- FireTimer: the program's and the reference's come to one function. -/
import Derived.Test.YtjejfkndiecmaaaT4
import Derived.Test.YtjejfkndiecmaaaT5
import Derived.Test.YtjejfkndiecmaaaK13
namespace Go.Proofs.Ytjejfkndiecmaaa
open Go.RowKit
theorem goodT_iff2 {ts : List Timer} : goodT ts = true ↔ (∀ t ∈ ts, okT t = true) ∧ ts.Pairwise (fun a b => a.id < b.id) ∧ ts.length ≤ 10 := by
  constructor
  · intro h
    refine ⟨fun t ht => ?_, goodT_asc h, (goodT_iff.1 h).2⟩
    obtain ⟨j, hj, rfl⟩ := List.mem_iff_getElem.1 ht
    rw [← tAt_lt hj]; exact goodT_ok h hj
  · rintro ⟨h1, h2, h3⟩
    refine goodT_iff.2 ⟨fun j hj => ?_, h3⟩
    simp only [stepT, Bool.and_eq_true, Bool.or_eq_true, beq_iff_eq, decide_eq_true_eq]
    refine ⟨by rw [tAt_lt hj]; exact h1 _ (List.getElem_mem hj), ?_⟩
    rcases Nat.eq_zero_or_pos j with h0 | h0
    · exact .inl h0
    · right
      rw [tAt_lt hj, tAt_lt (by omega)]
      exact List.pairwise_iff_getElem.1 h2 _ _ _ _ (by omega)
theorem posT_split {a b : List Timer} {id : Int} (h1 : ∀ t ∈ a, t.id < id) (h2 : ∀ t ∈ b, id ≤ t.id) : posT (a ++ b) id = a.length := by
  unfold posT
  rw [List.findIdx_append]
  have e1 : a.findIdx (fun t => decide (id ≤ t.id)) = a.length := List.findIdx_eq_length.2 (fun t ht => by have := h1 t ht; simp; omega)
  rw [e1, if_neg (by omega)]
  cases b with
  | nil => simp
  | cons t b => have := h2 t (List.mem_cons_self ..); rw [List.findIdx_cons]; simp [this]
theorem asc_parts {ts : List Timer} (ha : ts.Pairwise (fun a b => a.id < b.id)) {p : Nat} (hp : p < ts.length) : (∀ t ∈ ts.take p, t.id < ts[p].id) ∧ ∀ t ∈ ts.drop (p + 1), ts[p].id < t.id := by
  constructor
  · intro t ht
    obtain ⟨j, hj, rfl⟩ := List.mem_iff_getElem.1 ht
    simp at hj
    rw [List.getElem_take]
    exact List.pairwise_iff_getElem.1 ha _ _ _ _ (by omega)
  · intro t ht
    obtain ⟨j, hj, rfl⟩ := List.mem_iff_getElem.1 ht
    simp at hj
    rw [List.getElem_drop]
    exact List.pairwise_iff_getElem.1 ha _ _ _ _ (by omega)
/-- A timer put where one of its number is: it takes the place. -/
theorem putT_at {ts : List Timer} (hg : goodT ts = true) {p : Nat} (hp : p < ts.length) {t : Timer} (hid : (tAt ts p).id = t.id) : putT ts t = ts.set p t := by
  have hw := wo_at hg hp hid
  have hid' : ts[p].id = t.id := by rw [← tAt_lt hp]; exact hid
  have ⟨h1, h2⟩ := asc_parts (goodT_asc hg) hp
  rw [hid'] at h1 h2
  have hl : (ts.take p).length = p := by simp; omega
  have e1 := posT_split (a := ts.take p) (b := ts.drop (p + 1)) (id := t.id) h1 (fun x hx => Int.le_of_lt (h2 x hx))
  unfold putT
  rw [hw, e1, List.take_left, List.drop_left, List.set_eq_take_append_cons_drop, if_pos hp]
  simp
/-- A timer put where none of its number is. -/
theorem putT_new {ts : List Timer} {t : Timer} (hn : findI ts t.id = -1) : putT ts t = ts.take (posT ts t.id) ++ [t] ++ ts.drop (posT ts t.id) := by
  have hnone : ts.length ≤ idxT ts t.id := by
    unfold findI at hn; split at hn
    · omega
    · omega
  have hw : wo ts t.id = ts := by
    unfold wo; rw [List.filter_eq_self]
    intro x hx
    obtain ⟨j, hj, rfl⟩ := List.mem_iff_getElem.1 hx
    have := idxT_not (ts := ts) (id := t.id) (j := j) (by omega)
    rw [tAt_lt hj] at this
    simp [notId]; omega
  unfold putT
  rw [hw]
def fireT (ts : List Timer) (p : Nat) : List Timer :=
  if (tAt ts p).per = 0 ∨ 10000 < (tAt ts p).due + (tAt ts p).per then ts.take p ++ ts.drop (p + 1) else ts.set p ⟨(tAt ts p).id, (tAt ts p).due + (tAt ts p).per, (tAt ts p).per⟩
theorem fireT_del {ts : List Timer} {p : Nat} (h : (tAt ts p).per = 0 ∨ 10000 < (tAt ts p).due + (tAt ts p).per) : fireT ts p = ts.take p ++ ts.drop (p + 1) := by unfold fireT; rw [if_pos h]
theorem fireT_set {ts : List Timer} {p : Nat} (h : ¬ ((tAt ts p).per = 0 ∨ 10000 < (tAt ts p).due + (tAt ts p).per)) : fireT ts p = ts.set p ⟨(tAt ts p).id, (tAt ts p).due + (tAt ts p).per, (tAt ts p).per⟩ := by unfold fireT; rw [if_neg h]
theorem fireT_len {ts : List Timer} {p : Nat} (hp : p < ts.length) : (fireT ts p).length ≤ ts.length := by
  unfold fireT; split
  · simp; omega
  · simp
theorem fireT_good {ts : List Timer} (hg : goodT ts = true) {p : Nat} (hp : p < ts.length) : goodT (fireT ts p) = true := by
  have ⟨h1, h2, h3⟩ := goodT_iff2.1 hg
  by_cases h : (tAt ts p).per = 0 ∨ 10000 < (tAt ts p).due + (tAt ts p).per
  · rw [fireT_del h, ← wo_at hg hp rfl]
    exact goodT_iff2.2 ⟨fun t ht => h1 t ((List.mem_filter.1 ht).1), wo_asc h2 _, Nat.le_trans (wo_len _ _) h3⟩
  · rw [fireT_set h]
    have hb := goodT_bd hg hp
    refine goodT_iff2.2 ⟨fun t ht => ?_, ?_, by simpa using h3⟩
    · rcases List.mem_or_eq_of_mem_set ht with h4 | rfl
      · exact h1 t h4
      · rw [okT_iff]; omega
    · rw [List.pairwise_iff_getElem] at h2 ⊢
      intro i j hi hj hij
      simp at hi hj
      have h4 := h2 i j hi hj hij
      rw [List.getElem_set, List.getElem_set]
      have e := tAt_lt hp
      split <;> split
      · omega
      · rename_i h5 h6; subst h5; simp only [e]; exact h4
      · rename_i h5 h6; subst h6; simp only [e]; exact h4
      · exact h4
def fireR (ts : List Timer) (id : Int) : List Timer := if goodT ts = true ∧ 0 ≤ findI ts id then fireT ts (idxT ts id) else []
theorem fireR_len (ts : List Timer) (id : Int) : (fireR ts id).length ≤ ts.length := by
  unfold fireR; split
  · rename_i h
    have : idxT ts id < ts.length := by
      have h2 := h.2
      unfold findI at h2
      split at h2
      · assumption
      · omega
    exact fireT_len this
  · simp
/-- What fires first, and where it stands. -/
def firstI (ts : List Timer) : Nat := idxT ts (tAt (sortD ts) 0).id
theorem first_mem {ts : List Timer} (ha : ts.Pairwise (fun a b => a.id < b.id)) (h0 : 0 < ts.length) : firstI ts < ts.length ∧ tAt ts (firstI ts) = tAt (sortD ts) 0 := by
  have hl := sortD_len ha
  have hm : tAt (sortD ts) 0 ∈ ts := (sortD_perm ha).mem_iff.1 (by rw [tAt_lt (by omega)]; exact List.getElem_mem _)
  obtain ⟨q, hq, e⟩ := List.mem_iff_getElem.1 hm
  have h1 : firstI ts = q := by
    refine idxT_eq hq (by rw [tAt_lt hq, e]) (fun j hj => ?_)
    have := List.pairwise_iff_getElem.1 ha j q (by omega) hq hj
    rw [tAt_lt (by omega), ← e]; omega
  rw [h1]
  exact ⟨hq, by rw [tAt_lt hq, e]⟩
theorem first_at {ts : List Timer} (ha : ts.Pairwise (fun a b => a.id < b.id)) {p : Nat} (hp : p < ts.length) (h : tAt ts p = tAt (sortD ts) 0) : firstI ts = p := by
  refine idxT_eq hp (by rw [h]) (fun j hj => ?_)
  have := List.pairwise_iff_getElem.1 ha j p (by omega) hp hj
  rw [← h, tAt_lt (by omega), tAt_lt hp]; omega
/-- Timers fire as long as one is due: f more may. -/
def runT (now : Int) : Nat → List Timer → List Int → List Timer × List Int × Bool
  | 0, ts, is => if 0 < ts.length ∧ (tAt (sortD ts) 0).due ≤ now then ([], [], false) else (ts, is, true)
  | f + 1, ts, is => if 0 < ts.length ∧ (tAt (sortD ts) 0).due ≤ now then runT now f (fireT ts (firstI ts)) (is ++ [(tAt (sortD ts) 0).id]) else (ts, is, true)
theorem runT_stop {now : Int} {f : Nat} {ts : List Timer} {is : List Int} (h : ¬ (0 < ts.length ∧ (tAt (sortD ts) 0).due ≤ now)) : runT now f ts is = (ts, is, true) := by
  cases f <;> simp only [runT, if_neg h]
theorem runT_full {now : Int} {ts : List Timer} {is : List Int} (h : 0 < ts.length ∧ (tAt (sortD ts) 0).due ≤ now) : runT now 0 ts is = ([], [], false) := by
  simp only [runT, if_pos h]
theorem runT_step {now : Int} {f : Nat} {ts : List Timer} {is : List Int} (h : 0 < ts.length ∧ (tAt (sortD ts) 0).due ≤ now) : runT now (f + 1) ts is = runT now f (fireT ts (firstI ts)) (is ++ [(tAt (sortD ts) 0).id]) := by
  simp only [runT, if_pos h]
def runR (ts : List Timer) (now : Int) : List Timer × List Int × Bool := if goodT ts && inR now 0 10000 then runT now 50 ts [] else ([], [], false)
theorem runT_lens {now : Int} (f : Nat) : ∀ (ts : List Timer) (is : List Int), goodT ts = true → (runT now f ts is).1.length ≤ ts.length ∧ (runT now f ts is).2.1.length ≤ is.length + f := by
  induction f with
  | zero => intro ts is hg; simp only [runT]; split <;> simp
  | succ f ih =>
    intro ts is hg
    simp only [runT]; split
    · rename_i h
      have h1 := first_mem (goodT_asc hg) h.1
      have h2 := ih _ (is ++ [(tAt (sortD ts) 0).id]) (fireT_good hg h1.1)
      have h3 := fireT_len h1.1
      simp at h2
      omega
    · simp
theorem _root_.Go.World.grownBy.drewL {w w' : World} {row : Option Nat} (n : Nat) (h : (w.drewN n).grownBy w' row) : w.grownBy w' row := ⟨h.os, h.tape, h.output, h.size, h.block⟩
set_option maxRecDepth 100000 in
theorem c_l8Fire (A : Option Addr) (n c : Nat) (ts : List Timer) (p : Nat) (hg : goodT ts = true) (hp : p < ts.length) (w : World) (h : Rd w A n 3 (ts.map Timer.cells)) :
    Calls Try.prog 47 #[.slice A n c, .int .i64 p] w fun e w' => (∃ A' c', e = .returned (.slice A' (fireT ts p).length c') ∧ Row w' w.heap.size 26 3 Timer.cells A' (fireT ts p).length c' (fireT ts p)) ∧ Bw w w' := by
  have hl := Lib.hid h.tlen
  have hn10 : n ≤ 10 := by have := (goodT_iff.1 hg).2; rw [hl.out] at this; omega
  have hpn : p < n := by rw [← hl.out]; exact hp
  have ⟨⟨b0, b1⟩, ⟨b2, b3⟩, b4, b5⟩ := goodT_bd hg hp
  have HW := Lib.hid (wo_at hg hp rfl)
  have HP := Lib.hid (fun t' h => putT_at hg hp (t := t') h)
  have HD := Lib.hid (fun h => fireT_del (ts := ts) (p := p) h)
  have HS := Lib.hid (fun h => fireT_set (ts := ts) (p := p) h)
  obtain ⟨b, off, rfl, hb, hc⟩ := h.timer (by omega)
  have ⟨h0, h1, h2⟩ := hc p hpn
  clear hc hg hp
  generalize tAt ts p = t at *
  have hb' : b < w.heap.size + 1 := by omega
  by_cases c1 : t.per = 0
  · have HF := Lib.hid ((HD.out (.inl c1)).trans HW.out.symm)
    have d1 : (t.per == 0) = true := by simpa using c1
    clear c1
    go_enter Try.func47, Try.ntmps47
    go_wp2_with fail
    refine (c_l8Without _ _ _ ts t.id _ (by omega) (h.keep (by (repeat (first | with_reducible assumption | exact Bw.refl _ | (with_reducible refine Bw.setCell ?_ (by simp) _) | (with_reducible refine Bw.alloc ?_ _) | (with_reducible refine Bw.drew ?_) | (with_reducible refine Bw.drewN ?_ _)))))).mono ?_
    rintro e w1 ⟨⟨A1, c1, rfl, row1⟩, hb1⟩
    go_wp2_with fail
    go_ret
    rw [HF.out]
    exact ⟨⟨_, _, rfl, row1.mono (by simp)⟩, Bw.trans (by (repeat (first | with_reducible assumption | exact Bw.refl _ | (with_reducible refine Bw.setCell ?_ (by simp) _) | (with_reducible refine Bw.alloc ?_ _) | (with_reducible refine Bw.drew ?_) | (with_reducible refine Bw.drewN ?_ _)))) hb1⟩
  · have d1 : (t.per == 0) = false := by simpa using c1
    by_cases c2 : 10000 < t.due + t.per
    · have HF := Lib.hid ((HD.out (.inr c2)).trans HW.out.symm)
      clear c1
      go_enter Try.func47, Try.ntmps47
      go_wp2_with fail
      refine (c_l8Without _ _ _ ts t.id _ (by omega) (h.keep (by (repeat (first | with_reducible assumption | exact Bw.refl _ | (with_reducible refine Bw.setCell ?_ (by simp) _) | (with_reducible refine Bw.alloc ?_ _) | (with_reducible refine Bw.drew ?_) | (with_reducible refine Bw.drewN ?_ _)))))).mono ?_
      rintro e w1 ⟨⟨A1, c1, rfl, row1⟩, hb1⟩
      go_wp2_with fail
      go_ret
      rw [HF.out]
      exact ⟨⟨_, _, rfl, row1.mono (by simp)⟩, Bw.trans (by (repeat (first | with_reducible assumption | exact Bw.refl _ | (with_reducible refine Bw.setCell ?_ (by simp) _) | (with_reducible refine Bw.alloc ?_ _) | (with_reducible refine Bw.drew ?_) | (with_reducible refine Bw.drewN ?_ _)))) hb1⟩
    · have HF := Lib.hid ((HS.out (by omega)).trans (HP.out ⟨t.id, t.due + t.per, t.per⟩ rfl).symm)
      clear c1
      go_enter Try.func47, Try.ntmps47
      go_wp2_with fail
      refine (c_l8Put _ _ _ ts ⟨t.id, t.due + t.per, t.per⟩ _ (by omega) (h.keep (by (repeat (first | with_reducible assumption | exact Bw.refl _ | (with_reducible refine Bw.setCell ?_ (by simp) _) | (with_reducible refine Bw.alloc ?_ _) | (with_reducible refine Bw.drew ?_) | (with_reducible refine Bw.drewN ?_ _)))))).mono ?_
      rintro e w1 ⟨⟨A1, c1, rfl, row1⟩, hb1⟩
      go_wp2_with fail
      go_ret
      rw [HF.out]
      exact ⟨⟨_, _, rfl, row1.mono (by simp)⟩, Bw.trans (by (repeat (first | with_reducible assumption | exact Bw.refl _ | (with_reducible refine Bw.setCell ?_ (by simp) _) | (with_reducible refine Bw.alloc ?_ _) | (with_reducible refine Bw.drew ?_) | (with_reducible refine Bw.drewN ?_ _)))) hb1⟩
set_option maxRecDepth 100000 in
theorem c_fire (A : Option Addr) (n c : Nat) (ts : List Timer) (p : Nat) (lo : Nat) (hg : goodT ts = true) (hp : p < ts.length) (w : World) (h : Row w lo 26 3 Timer.cells A n c ts) :
    Calls Try.prog 45 #[.slice A n c, .int .i64 p] w fun e w' => e = .returned (.slice A (fireT ts p).length c) ∧ Row w' lo 26 3 Timer.cells A (fireT ts p).length c (fireT ts p) ∧ w.grownBy w' (Value.ownBlock (.slice A n c)) := by
  have hl := Lib.hid h.len
  have hn10 : n ≤ 10 := by have := (goodT_iff.1 hg).2; rw [hl.out] at this; omega
  have hpn : p < n := by rw [← hl.out]; exact hp
  have ⟨⟨b0, b1⟩, ⟨b2, b3⟩, b4, b5⟩ := goodT_bd hg hp
  have HD := Lib.hid (fun h => fireT_del (ts := ts) (p := p) h)
  have HS := Lib.hid (fun h => fireT_set (ts := ts) (p := p) h)
  have HT := Lib.hid (tAt_lt hp)
  have HP := Lib.hid hp
  obtain ⟨g, rfl, hlo, hgl, hfz, hcc⟩ := h.timer (by omega)
  have ⟨h0, h1, h2⟩ := hcc p hpn
  clear hcc hg
  generalize tAt ts p = t at *
  by_cases c1 : t.per = 0 ∨ 10000 < t.due + t.per
  · have HF := Lib.hid (HD.out c1)
    have HL := Lib.hid (show (ts.take p ++ ts.drop (p + 1)).length = p + (n - (p + 1)) by simp [hl.out]; omega)
    go_enter Try.func45, Try.ntmps45
    go_wp2_with fail
    by_cases c2 : t.per = 0
    · have d1 : (t.per == 0) = true := by simpa using c2
      clear c1 c2
      go_quiet (fail)
      go_wp2_with fail
      rw [show ((p : Int) + 1) = ((p + 1 : Nat) : Int) from by omega]
      refine (c_DeleteTimer _ _ _ ts p (p + 1) lo _ (by omega) (by omega) (by omega) (h.keep (by (repeat (first | with_reducible assumption | exact Bw.refl _ | (with_reducible refine Bw.setCell ?_ (by simp) _) | (with_reducible refine Bw.alloc ?_ _) | (with_reducible refine Bw.drew ?_) | (with_reducible refine Bw.drewN ?_ _)))))).mono ?_
      rintro e w3 ⟨rfl, row3, hg3⟩
      go_wp2_with fail
      go_ret
      rw [HF.out, HL.out]
      exact ⟨rfl, row3, World.grownBy.drewL _ hg3⟩
    · have d1 : (t.per == 0) = false := by simpa using c2
      have d2 : 10000 < t.due + t.per := by rcases c1 with h1 | h1; exact absurd h1 c2; exact h1
      clear c1 c2
      go_quiet (fail)
      go_wp2_with fail
      rw [show ((p : Int) + 1) = ((p + 1 : Nat) : Int) from by omega]
      refine (c_DeleteTimer _ _ _ ts p (p + 1) lo _ (by omega) (by omega) (by omega) (h.keep (by (repeat (first | with_reducible assumption | exact Bw.refl _ | (with_reducible refine Bw.setCell ?_ (by simp) _) | (with_reducible refine Bw.alloc ?_ _) | (with_reducible refine Bw.drew ?_) | (with_reducible refine Bw.drewN ?_ _)))))).mono ?_
      rintro e w3 ⟨rfl, row3, hg3⟩
      go_wp2_with fail
      go_ret
      rw [HF.out, HL.out]
      exact ⟨rfl, row3, World.grownBy.drewL _ hg3⟩
  · have HF := Lib.hid (HS.out c1)
    have d1 : (t.per == 0) = false := by simp; omega
    have d2 : ¬ 10000 < t.due + t.per := by omega
    clear c1
    go_enter Try.func45, Try.ntmps45
    go_wp2_with fail
    go_quiet (fail)
    have hw := (Bw.refl w).drewN nq
    have hrow2 := h.keep hw
    go_wp2_with fail
    go_region
    go_wp2_with fail
    go_ret
    have hs := hrow2.setAt (k := p) (j := 1) (v := .int .i64 (t.due + t.per)) (t' := ⟨t.id, t.due + t.per, t.per⟩) (fun _ => rfl) HP.out (by omega) (by rw [← HT.out]; rfl)
    rw [HF.out, List.length_set, hl.out]
    exact ⟨rfl, hs.1.keep (Bw.drew (Bw.refl _)), (hw.toGrown.weaken.trans hs.2).trans (Bw.drew (Bw.refl _)).toGrown.weaken⟩
end Go.Proofs.Ytjejfkndiecmaaa
