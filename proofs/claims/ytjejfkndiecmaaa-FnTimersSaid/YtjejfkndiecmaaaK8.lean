
/- Searching a list of timers. -/
import Derived.Test.YtjejfkndiecmaaaK4
namespace Go.Proofs.Ytjejfkndiecmaaa
open Go.RowKit
def cmpI (a b : Int) : Int := if a < b then -1 else if b < a then 1 else 0
theorem cmpI_nonneg {a b : Int} (h : ¬ a < b) : 0 ≤ cmpI a b := by
  unfold cmpI; rw [if_neg h]; split <;> omega
theorem cmpI_zero (a b : Int) : (cmpI a b == 0) = decide (a = b) := by
  rw [Bool.eq_iff_iff]; simp [cmpI]; omega
theorem c_isNaN (a : Int) (w : World) : Calls Try.prog 71 #[.int .i64 a] w fun e w' => e = .returned (.bool false) ∧ w = w' := by
  go_enter Try.func71, Try.ntmps71
  go_wp2
  go_ret
  exact ⟨rfl, rfl⟩
theorem c_Compare (a b : Int) {r : Int} (h : cmpI a b = r) (w : World) : Calls Try.prog 66 #[.int .i64 a, .int .i64 b] w fun e w' => e = .returned (.int .i64 r) ∧ w = w' := by
  subst h
  go_enter Try.func66, Try.ntmps66
  go_wp2_with (go_at_call 71; refine (c_isNaN _ _).mono ?_; rintro e w1 ⟨rfl, rfl⟩)
  all_goals (go_ret; refine ⟨ret_int ?_, rfl⟩; unfold cmpI; split <;> omega)
theorem x_find1 (i d p id : Int) {r : Int} (h : cmpI i id = r) (w : World) : Calls Try.prog 65 #[.agg #[.int .i64 i, .int .i64 d, .int .i64 p], .int .i64 id] w fun e w' => e = .returned (.int .i64 r) ∧ w.alloc (.cells #[.int .i64 i, .int .i64 d, .int .i64 p] 26) = w' := by
  go_enter Try.func65, Try.ntmps65
  go_wp2_with (go_at_call 66; refine (c_Compare _ _ h _).mono ?_; rintro e w1 ⟨rfl, rfl⟩)
  go_ret
  exact ⟨rfl, rfl⟩
theorem c_bsearch (A : Option Addr) (n c : Nat) (ts : List Timer) (id : Int) (p : Nat) (w : World) (hm : n ≤ 1000000000) (h : Rd w A n 3 (ts.map Timer.cells))
    (hp : p ≤ n) (hlo : ∀ j, j < p → (tAt ts j).id < id) (hhi : ∀ j, p ≤ j → j < n → id ≤ (tAt ts j).id) {r : Bool} (hr : (decide (p < n) && decide ((tAt ts p).id = id)) = r) :
    Calls Try.prog 64 #[.slice A n c, .int .i64 id, .func (.func 65) #[] #[]] w fun e w' => e = .returned (.tuple #[.int .i64 p, .bool r]) ∧ Bw w w' := by
  subst hr
  have Hlo := Lib.hid hlo
  have Hhi := Lib.hid hhi
  clear hlo hhi
  go_enter Try.func64, Try.ntmps64
  go_wp2
  go_loopw [9, 10] (fun iv jv wr => ∃ i j : Nat, i ≤ p ∧ p ≤ j ∧ j ≤ n ∧ iv = .int .i64 i ∧ jv = .int .i64 j ∧ Bw w wr) (fun iv jv _ => (intOf jv - intOf iv).toNat)
  case atStart => exact ⟨0, n, Nat.zero_le _, hp, Nat.le_refl _, rfl, rfl, Bw.refl _⟩
  case round =>
    obtain ⟨i, j, hi, hj, hjn, rfl, rfl, hbl⟩ := hrel
    by_cases hlt : i < j
    · obtain ⟨b, off, rfl, hb, hc⟩ := (h.keep hbl).timer (by omega)
      have ⟨h0, h1, h2⟩ := hc ((i + j) / 2) (by omega)
      clear hc
      by_cases hk : (tAt ts ((i + j) / 2)).id < id
      · have hip : (i + j) / 2 < p := by
          rcases Nat.lt_or_ge ((i + j) / 2) p with h1 | h1
          · exact h1
          · have := Hhi.out _ h1 (by omega); omega
        go_wp2_with (go_at_call 65; refine (x_find1 _ _ _ _ (r := -1) (by simp [cmpI, hk]) _).mono ?_; rintro e w1 ⟨rfl, rfl⟩)
        go_roundw
        case rel => exact ⟨(i + j) / 2 + 1, j, by omega, by omega, by omega, by go_num, rfl, hbl.alloc _⟩
        case measure => simp [intOf]; omega
      · have hip : p ≤ (i + j) / 2 := by
          rcases Nat.lt_or_ge ((i + j) / 2) p with h1 | h1
          · have := Hlo.out _ h1; omega
          · exact h1
        have hge : 0 ≤ cmpI (tAt ts ((i + j) / 2)).id id := cmpI_nonneg hk
        generalize hcv : cmpI (tAt ts ((i + j) / 2)).id id = cv at hge
        have HC := Lib.hid hcv
        clear hcv
        go_wp2_with (go_at_call 65; refine (x_find1 _ _ _ _ HC.out _).mono ?_; rintro e w1 ⟨rfl, rfl⟩)
        go_roundw
        case rel => exact ⟨i, (i + j) / 2, by omega, by omega, by omega, rfl, by go_num, hbl.alloc _⟩
        case measure => simp [intOf]; omega
    · obtain rfl : i = p := by omega
      obtain rfl : i = j := by omega
      by_cases hin : i < n
      · obtain ⟨b, off, rfl, hb, hc⟩ := (h.keep hbl).timer (by omega)
        have ⟨h0, h1, h2⟩ := hc i hin
        clear hc
        generalize hcv : cmpI (tAt ts i).id id = cv
        have HC := Lib.hid hcv
        clear hcv
        go_wp2_with (go_at_call 65; refine (x_find1 _ _ _ _ HC.out _).mono ?_; rintro e w1 ⟨rfl, rfl⟩)
        go_ret2
        refine ⟨?_, hbl.alloc _⟩
        have e1 : (cv == 0) = decide ((tAt ts i).id = id) := by rw [← HC.out, cmpI_zero]
        simp [hin, e1]
      · go_wp2
        go_ret2
        refine ⟨?_, hbl⟩
        simp [hin]
def idxT (ts : List Timer) (id : Int) : Nat := ts.findIdx (fun t => t.id == id)
def findI (ts : List Timer) (id : Int) : Int := if idxT ts id < ts.length then (idxT ts id : Int) else -1
theorem tAt_lt {ts : List Timer} {k : Nat} (h : k < ts.length) : tAt ts k = ts[k] := by simp [tAt, h]
theorem idxT_not {ts : List Timer} {id : Int} {j : Nat} (h : j < idxT ts id) : (tAt ts j).id ≠ id := by
  have hl : j < ts.length := Nat.lt_of_lt_of_le h (List.findIdx_le_length)
  have := List.not_of_lt_findIdx h
  rw [tAt_lt hl]; simpa using this
theorem idxT_is {ts : List Timer} {id : Int} (h : idxT ts id < ts.length) : (tAt ts (idxT ts id)).id = id := by
  rw [tAt_lt h]
  have := List.findIdx_getElem (w := h)
  simp only [beq_iff_eq] at this
  exact this
theorem idxT_le (ts : List Timer) (id : Int) : idxT ts id ≤ ts.length := List.findIdx_le_length
theorem idxT_eq {ts : List Timer} {id : Int} {k : Nat} (hk : k < ts.length) (hid : (tAt ts k).id = id) (hn : ∀ j, j < k → (tAt ts j).id ≠ id) : idxT ts id = k := by
  rcases Nat.lt_trichotomy (idxT ts id) k with h | h | h
  · exact absurd (idxT_is (by omega)) (hn _ h)
  · exact h
  · exact absurd hid (idxT_not h)
theorem idxT_none {ts : List Timer} {id : Int} (hn : ∀ j, j < ts.length → (tAt ts j).id ≠ id) : idxT ts id = ts.length := by
  rcases Nat.lt_or_ge (idxT ts id) ts.length with h | h
  · exact absurd (idxT_is h) (hn _ h)
  · exact Nat.le_antisymm (idxT_le _ _) h
theorem goodT_iff {ts : List Timer} : goodT ts = true ↔ (∀ j, j < ts.length → stepT ts j = true) ∧ ts.length ≤ 10 := by
  constructor
  · intro h
    simp only [goodT, Bool.and_eq_true, decide_eq_true_eq] at h
    exact ⟨allB_elim h.1, h.2⟩
  · rintro ⟨h1, h2⟩; simp [goodT_true h1, h2]
theorem goodT_ok {ts : List Timer} (h : goodT ts = true) {j : Nat} (hj : j < ts.length) : okT (tAt ts j) = true := by
  have := (goodT_iff.1 h).1 j hj
  simp only [stepT, Bool.and_eq_true] at this
  exact this.1
theorem goodT_bd {ts : List Timer} (h : goodT ts = true) {j : Nat} (hj : j < ts.length) : (1 ≤ (tAt ts j).id ∧ (tAt ts j).id ≤ 99) ∧ (0 ≤ (tAt ts j).due ∧ (tAt ts j).due ≤ 10000) ∧ 0 ≤ (tAt ts j).per ∧ (tAt ts j).per ≤ 10000 :=
  okT_iff.1 (goodT_ok h hj)
theorem goodT_lt {ts : List Timer} (h : goodT ts = true) {i j : Nat} (hij : i < j) (hj : j < ts.length) : (tAt ts i).id < (tAt ts j).id := by
  induction j with
  | zero => omega
  | succ j ih =>
    have := (goodT_iff.1 h).1 (j + 1) hj
    simp [stepT] at this
    rcases Nat.lt_or_ge i j with h1 | h1
    · have := ih h1 (by omega); omega
    · obtain rfl : i = j := by omega
      omega
def posT (ts : List Timer) (id : Int) : Nat := ts.findIdx (fun t => decide (id ≤ t.id))
theorem posT_le (ts : List Timer) (id : Int) : posT ts id ≤ ts.length := List.findIdx_le_length
theorem posT_lo {ts : List Timer} {id : Int} {j : Nat} (h : j < posT ts id) : (tAt ts j).id < id := by
  have hl : j < ts.length := Nat.lt_of_lt_of_le h (posT_le _ _)
  have := List.not_of_lt_findIdx h
  rw [tAt_lt hl]; simp at this; omega
theorem posT_hi {ts : List Timer} (hg : goodT ts = true) {id : Int} {j : Nat} (h : posT ts id ≤ j) (hj : j < ts.length) : id ≤ (tAt ts j).id := by
  have hp : posT ts id < ts.length := by omega
  have h1 : id ≤ (tAt ts (posT ts id)).id := by
    rw [tAt_lt hp]
    have := List.findIdx_getElem (w := hp)
    simp only [decide_eq_true_eq] at this
    exact this
  rcases Nat.lt_or_ge (posT ts id) j with h2 | h2
  · have := goodT_lt hg h2 hj; omega
  · obtain rfl : j = posT ts id := by omega
    exact h1
theorem posT_found {ts : List Timer} {id : Int} (hp : posT ts id < ts.length) (hid : (tAt ts (posT ts id)).id = id) : idxT ts id = posT ts id :=
  idxT_eq hp hid (fun j hj => by have := posT_lo hj; omega)
theorem posT_none {ts : List Timer} (hg : goodT ts = true) {id : Int} (h : ¬ (posT ts id < ts.length ∧ (tAt ts (posT ts id)).id = id)) : idxT ts id = ts.length :=
  idxT_none (fun j hj hid => by
    rcases Nat.lt_or_ge j (posT ts id) with h1 | h1
    · have := posT_lo h1; omega
    · rcases Nat.lt_or_ge (posT ts id) j with h2 | h2
      · have h3 := goodT_lt hg h2 hj
        have h4 := posT_hi hg (Nat.le_refl (posT ts id)) (by omega)
        omega
      · obtain rfl : j = posT ts id := by omega
        exact h ⟨hj, hid⟩)
theorem c_l8Find (A : Option Addr) (n c : Nat) (ts : List Timer) (id : Int) {m : Int} (hm : findI ts id = m) (w : World) (hn : n ≤ 9223372036854775807) (h : Rd w A n 3 (ts.map Timer.cells)) :
    Calls Try.prog 46 #[.slice A n c, .int .i64 id] w fun e w' => e = .returned (.int .i64 m) ∧ w = w' := by
  subst hm
  have hl := Lib.hid h.tlen
  go_enter Try.func46, Try.ntmps46
  go_wp2
  go_loop [5] (fun i => ∃ k : Nat, k ≤ n ∧ i = .int .i64 k ∧ ∀ j, j < k → (tAt ts j).id ≠ id) (fun i => n - (intOf i).toNat)
  case atStart => exact ⟨0, Nat.zero_le _, rfl, fun j hj => absurd hj (by omega)⟩
  case round =>
    obtain ⟨k, hk, rfl, hn'⟩ := hrel
    have Hn := Lib.hid hn'
    clear hn'
    by_cases hlt : k < n
    · obtain ⟨b, off, rfl, hb, hc⟩ := h.timer (by omega)
      have ⟨h0, h1, h2⟩ := hc k hlt
      clear hc
      by_cases he : (tAt ts k).id = id
      · have he' : ((tAt ts k).id == id) = true := by simpa using he
        have HE := Lib.hid he
        clear he
        go_wp2
        go_ret
        have := idxT_eq (by rw [hl.out]; exact hlt) HE.out Hn.out
        exact ⟨ret_int (by simp [findI, this, hl.out, hlt]), rfl⟩
      · have he' : ((tAt ts k).id == id) = false := by simpa using he
        have HE := Lib.hid he
        clear he
        go_wp2
        go_round
        case rel => exact ⟨k + 1, by omega, by go_num, snoc_lt Hn.out HE.out⟩
        case measure => simp [intOf]; omega
    · go_wp2
      go_ret
      have := idxT_none (ts := ts) (id := id) (by rw [hl.out]; intro j hj; exact Hn.out j (by omega))
      exact ⟨ret_int (by simp [findI, this]), rfl⟩
theorem c_findTimer (A : Option Addr) (n c : Nat) (ts : List Timer) (id : Int) (hg : goodT ts = true) {p : Nat} (hp : posT ts id = p) {r : Bool} (hr : (decide (p < n) && decide ((tAt ts p).id = id)) = r) (w : World) (h : Rd w A n 3 (ts.map Timer.cells)) :
    Calls Try.prog 39 #[.slice A n c, .int .i64 id] w fun e w' => e = .returned (.tuple #[.int .i64 p, .bool r]) ∧ Bw w w' := by
  have hl := h.tlen
  have hn : n ≤ 10 := by have := (goodT_iff.1 hg).2; omega
  have Hg := Lib.hid hg
  have Hl := Lib.hid hl
  have Hr := Lib.hid hr
  have Hp := Lib.hid hp
  clear hg hl hr hp
  go_enter Try.func39, Try.ntmps39
  go_wp2_with (go_at_call 64; refine (c_bsearch _ _ _ ts _ p _ (by omega) h ?hp ?hlo ?hhi Hr.out).mono ?_; rotate_left 3; rintro e w1 ⟨rfl, hb1⟩)
  case hp => rw [← Hp.out, ← Hl.out]; exact posT_le _ _
  case hlo => rw [← Hp.out]; exact fun j hj => posT_lo hj
  case hhi => rw [← Hp.out, ← Hl.out]; exact fun j h1 h2 => posT_hi Hg.out h1 h2
  go_ret2
  exact ⟨rfl, hb1⟩
end Go.Proofs.Ytjejfkndiecmaaa
