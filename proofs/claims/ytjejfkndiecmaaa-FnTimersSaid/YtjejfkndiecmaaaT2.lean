
/- Timers in ascending order of Due: the program's stable sort of a copy. -/
import Derived.Test.YtjejfkndiecmaaaT1
namespace Go.Proofs.Ytjejfkndiecmaaa
open Go.RowKit
def insD (x : Timer) : List Timer → List Timer
  | [] => [x]
  | t :: l => if t.due ≤ x.due then t :: insD x l else x :: t :: l
def sortD (ts : List Timer) : List Timer := ts.foldl (fun l x => insD x l) []
def ltD (a b : Timer) : Prop := a.due < b.due ∨ (a.due = b.due ∧ a.id < b.id)
theorem insD_len (x : Timer) (l : List Timer) : (insD x l).length = l.length + 1 := by
  induction l with
  | nil => rfl
  | cons t l ih => unfold insD; split <;> simp [ih]
theorem insD_perm (x : Timer) (l : List Timer) : (insD x l).Perm (x :: l) := by
  induction l with
  | nil => exact List.Perm.refl _
  | cons t l ih =>
    unfold insD; split
    · exact (List.Perm.cons t ih).trans (List.Perm.swap x t l)
    · exact List.Perm.refl _
theorem insD_sorted {x : Timer} {l : List Timer} (h : l.Pairwise ltD) (hx : ∀ t ∈ l, t.id < x.id) : (insD x l).Pairwise ltD := by
  induction l with
  | nil => simp [insD]
  | cons t l ih =>
    rw [List.pairwise_cons] at h
    unfold insD; split
    · rename_i hd
      rw [List.pairwise_cons]
      refine ⟨fun b hb => ?_, ih h.2 (fun t ht => hx t (List.mem_cons_of_mem _ ht))⟩
      have hb2 := (insD_perm x l).mem_iff.1 hb
      rcases List.mem_cons.1 hb2 with rfl | hb3
      · have := hx t (List.mem_cons_self ..)
        unfold ltD; omega
      · exact h.1 b hb3
    · rename_i hd
      rw [List.pairwise_cons]
      refine ⟨fun b hb => ?_, List.pairwise_cons.2 h⟩
      rcases List.mem_cons.1 hb with rfl | hb3
      · unfold ltD; omega
      · have := h.1 b hb3
        unfold ltD at *; omega
theorem insD_at {x : Timer} {F S : List Timer} (h1 : ∀ t ∈ F, t.due ≤ x.due) (h2 : ∀ t ∈ S, x.due < t.due) : insD x (F ++ S) = F ++ x :: S := by
  induction F with
  | nil =>
    cases S with
    | nil => rfl
    | cons s S => have := h2 s (List.mem_cons_self ..); simp only [List.nil_append, insD]; rw [if_neg (by omega)]
  | cons f F ih =>
    simp only [List.cons_append, insD]
    rw [if_pos (h1 f (List.mem_cons_self ..)), ih (fun t ht => h1 t (List.mem_cons_of_mem _ ht))]
theorem foldD {ts acc : List Timer} (h : acc.Pairwise ltD) (ha : ∀ a ∈ acc, ∀ t ∈ ts, a.id < t.id) (ht : ts.Pairwise (fun a b => a.id < b.id)) :
    (ts.foldl (fun l x => insD x l) acc).Pairwise ltD ∧ (ts.foldl (fun l x => insD x l) acc).Perm (acc ++ ts) := by
  induction ts generalizing acc with
  | nil => exact ⟨h, by simp⟩
  | cons t ts ih =>
    rw [List.pairwise_cons] at ht
    have h1 := insD_sorted h (fun a hh => ha a hh t (List.mem_cons_self ..))
    have := ih h1 (fun a hh u hu => by
      rcases List.mem_cons.1 ((insD_perm t acc).mem_iff.1 hh) with rfl | h3
      · exact ht.1 u hu
      · exact ha a h3 u (List.mem_cons_of_mem _ hu)) ht.2
    refine ⟨this.1, this.2.trans ?_⟩
    refine ((insD_perm t acc).append_right ts).trans ?_
    exact (List.perm_middle (l₁ := acc) (a := t) (l₂ := ts)).symm
theorem sortD_sorted {ts : List Timer} (ht : ts.Pairwise (fun a b => a.id < b.id)) : (sortD ts).Pairwise ltD := (foldD List.Pairwise.nil (fun _ h => by simp at h) ht).1
theorem sortD_perm {ts : List Timer} (ht : ts.Pairwise (fun a b => a.id < b.id)) : (sortD ts).Perm ts := by
  have := (foldD (acc := []) List.Pairwise.nil (fun _ h => by simp at h) ht).2
  rw [List.nil_append] at this; exact this
theorem sortD_len {ts : List Timer} (ht : ts.Pairwise (fun a b => a.id < b.id)) : (sortD ts).length = ts.length := (sortD_perm ht).length_eq
theorem sortD_succ {ts : List Timer} {k : Nat} (h : k < ts.length) : sortD (ts.take (k + 1)) = insD ts[k] (sortD (ts.take k)) := by
  rw [List.take_succ_eq_append_getElem h, sortD, List.foldl_append]; rfl
theorem asc_take {ts : List Timer} (ht : ts.Pairwise (fun a b => a.id < b.id)) (k : Nat) : (ts.take k).Pairwise (fun a b => a.id < b.id) := ht.sublist (List.take_sublist k ts)
theorem goodT_asc {ts : List Timer} (h : goodT ts = true) : ts.Pairwise (fun a b => a.id < b.id) := by
  rw [List.pairwise_iff_getElem]
  intro i j hi hj hij
  have := goodT_lt h hij hj
  rwa [tAt_lt hi, tAt_lt hj] at this
/-- The state of the inner loop: x stands behind F, the elements S behind it are greater. -/
structure InsSt (P : List Timer) (x : Timer) (R L : List Timer) (j : Nat) : Prop where
  ex : ∃ F S, F ++ S = P ∧ F.length = j ∧ (∀ t ∈ S, x.due < t.due) ∧ L = F ++ x :: S ++ R
theorem InsSt.start {P R : List Timer} {x : Timer} {k : Nat} (h : P.length = k) : InsSt P x R (P ++ x :: R) k := ⟨P, [], by simp, h, by simp, by simp⟩
theorem InsSt.look {P R L : List Timer} {x : Timer} {m : Nat} (h : InsSt P x R L (m + 1)) : ∃ y, tAt L (m + 1) = x ∧ tAt L m = y ∧ m + 1 < L.length ∧ L[m + 1]? = some x ∧ L[m]? = some y ∧
    (x.due < y.due → InsSt P x R ((L.set (m + 1) y).set m x) m) ∧ (P.Pairwise ltD → ¬ x.due < y.due → L = insD x P ++ R) := by
  obtain ⟨F, S, hP, hF, hS, rfl⟩ := h.ex
  obtain ⟨F', y, rfl⟩ : ∃ F' y, F = F' ++ [y] := ⟨F.dropLast, F.getLast (by intro h0; rw [h0] at hF; simp at hF), (List.dropLast_concat_getLast _).symm⟩
  have hF' : F'.length = m := by simpa using hF
  subst hF'
  have e1 : (F' ++ [y] ++ x :: S ++ R)[F'.length + 1]? = some x := by
    rw [List.append_assoc, List.getElem?_append_right (by simp)]; simp
  have e2 : (F' ++ [y] ++ x :: S ++ R)[F'.length]? = some y := by
    rw [List.append_assoc, List.append_assoc, List.getElem?_append_right (by simp)]; simp
  refine ⟨y, by simp only [tAt, List.getD_eq_getElem?_getD, e1]; rfl, by simp only [tAt, List.getD_eq_getElem?_getD, e2]; rfl, by simp, e1, e2, fun hxy => ?_, fun hsP hxy => ?_⟩
  · refine ⟨F', y :: S, by rw [← hP]; simp, rfl, ?_, ?_⟩
    · intro t ht
      rcases List.mem_cons.1 ht with rfl | ht
      · exact hxy
      · exact hS t ht
    · simp [List.append_assoc]
  · rw [← hP]
    rw [insD_at ?_ hS]
    intro t ht
    rcases List.mem_append.1 ht with ht | ht
    · rw [← hP] at hsP
      have h1 := (List.pairwise_append.1 ((List.pairwise_append.1 hsP).1)).2.2 t ht y (by simp)
      unfold ltD at h1; omega
    · simp at ht; subst ht; omega
theorem InsSt.zero {P R L : List Timer} {x : Timer} (h : InsSt P x R L 0) : L = insD x P ++ R := by
  obtain ⟨F, S, hP, hF, hS, rfl⟩ := h.ex
  obtain rfl : F = [] := List.eq_nil_of_length_eq_zero hF
  simp only [List.nil_append] at hP
  subst hP
  rw [show insD x S = x :: S from insD_at (F := []) (by simp) hS]; simp
theorem InsSt.len {P R L : List Timer} {x : Timer} {j : Nat} (h : InsSt P x R L j) : L.length = P.length + 1 + R.length := by
  obtain ⟨F, S, hP, hF, hS, rfl⟩ := h.ex
  subst hP; simp; omega
theorem c_byDue1 (i d p i' d' p' : Int) {r : Int} (h : cmpI d d' = r) (w : World) : Calls Try.prog 70 #[.agg #[.int .i64 i, .int .i64 d, .int .i64 p], .agg #[.int .i64 i', .int .i64 d', .int .i64 p']] w fun e w' => e = .returned (.int .i64 r) ∧ Bw w w' := by
  go_enter Try.func70, Try.ntmps70
  go_wp2_with (go_at_call 66; refine (c_Compare _ _ h _).mono ?_; rintro e w1 ⟨rfl, rfl⟩)
  go_ret
  refine ⟨rfl, ?_⟩
  (repeat (first | with_reducible assumption | exact Bw.refl _ | (with_reducible refine Bw.setCell ?_ (by simp) _) | (with_reducible refine Bw.alloc ?_ _) | (with_reducible refine Bw.drew ?_) | (with_reducible refine Bw.drewN ?_ _)))
set_option maxRecDepth 100000 in
theorem c_isort (A : Option Addr) (n c : Nat) (ts : List Timer) (lo : Nat) (w : World) (hm : n ≤ 19) (hasc : ts.Pairwise (fun a b => a.id < b.id)) (hrw : Row w lo 26 3 Timer.cells A n c ts) :
    Calls Try.prog 75 #[.slice A n c, .int .i64 0, .int .i64 n, .func (.func 70) #[] #[]] w fun e w' => e = .returned (.tuple #[]) ∧ Row w' lo 26 3 Timer.cells A n c (sortD ts) ∧ w.grownBy w' (Value.ownBlock (.slice A n c)) := by
  have hlen := hrw.len
  have HL := Lib.hid hlen
  have HA := Lib.hid hasc
  clear hlen hasc
  go_enter Try.func75, Try.ntmps75
  go_wp2
  go_loopw [8] (fun iv wr => ∃ (k : Nat), 1 ≤ k ∧ (k ≤ n ∨ k = 1) ∧ iv = .int .i64 k ∧ Row wr lo 26 3 Timer.cells A n c (sortD (ts.take k) ++ ts.drop k) ∧ w.grownBy wr (Value.ownBlock (.slice A n c))) (fun iv _ => (n + 1 - (intOf iv).toNat))
  case atStart =>
    refine ⟨1, Nat.le_refl _, .inr rfl, rfl, ?_, World.grownBy.refl _ _⟩
    cases ts with
    | nil => exact hrw
    | cons t ts => exact hrw
  case round =>
    obtain ⟨k, hk1, hk, rfl, hrow, hg⟩ := hrel
    by_cases hlt : k < n
    · have hkt : k < ts.length := by rw [HL.out]; exact hlt
      have hPl := sortD_len (asc_take HA.out k)
      have hPs := sortD_sorted (asc_take HA.out k)
      have hnext := sortD_succ hkt
      rw [List.drop_eq_getElem_cons hkt] at hrow
      rw [List.length_take, Nat.min_eq_left (by omega)] at hPl
      generalize sortD (ts.take k) = P at hrow hPl hPs hnext
      generalize ts[k] = x at hrow hnext
      have HN := Lib.hid hnext
      have HS := Lib.hid hPs
      have HP := Lib.hid hPl
      clear hPl hPs hnext hkt
      go_wp2
      go_loopw [9] (fun jv wq => ∃ (j : Nat) (L : List Timer), j ≤ k ∧ jv = .int .i64 j ∧ InsSt P x (ts.drop (k + 1)) L j ∧ Row wq lo 26 3 Timer.cells A n c L ∧ w.grownBy wq (Value.ownBlock (.slice A n c))) (fun jv _ => (intOf jv).toNat)
      case atStart => exact ⟨k, _, Nat.le_refl _, rfl, InsSt.start HP.out, hrow, hg⟩
      case round =>
        obtain ⟨j, L, hj, rfl, hst, hrow2, hg2⟩ := hrel
        match j, hj, hst with
        | 0, hj, hst =>
          have HZ := Lib.hid hst.zero
          clear hst
          go_wp2
          go_quiet (fail)
          go_wp2
          go_roundw
          case rel => exact ⟨k + 1, by omega, .inl (by omega), by go_num, by rw [HN.out, ← HZ.out]; exact hrow2.keep ((Bw.refl _).drewN _), hg2.trans (((Bw.refl _).drewN _).toGrown).weaken⟩
          case measure => simp [intOf]; omega
        | m + 1, hj, hst =>
          obtain ⟨y, hx1, hy1, hml, hgx, hgy, hstep, hstop⟩ := hst.look
          have HE := Lib.hid hst.len
          have H1 := Lib.hid hstep
          have H2 := Lib.hid hstop
          have HX := Lib.hid hx1
          have HY := Lib.hid hy1
          clear hstep hstop hst hgx hgy
          obtain ⟨g, rfl, hlo, hgl, hfz, hcc⟩ := hrow2.timer (by omega)
          have ⟨p0, p1, p2⟩ := hcc (m + 1) (by omega)
          have ⟨q0, q1, q2⟩ := hcc m (by omega)
          rw [HX.out] at p0 p1 p2
          rw [HY.out] at q0 q1 q2
          clear hcc hx1 hy1
          have e1 : (((m + 1 : Nat) : Int) - 1) = (m : Int) := by omega
          by_cases hxy : x.due < y.due
          · have hcv : cmpI x.due y.due = -1 := by simp [cmpI, hxy]
            have HC := Lib.hid hcv
            clear hcv
            go_wp2
            (refine wp_region_ext (by kernel_rfl) (by kernel_rfl) ?_; (repeat (go_big_quiet_step (exact Ext.calls (c_byDue1 _ _ _ _ _ _ HC.out _)))); (with_reducible refine wpQuiet_nil ?_); intro w2 hb2)
            have hrow3 := hrow2.keep hb2
            have hfz3 := fun j => hrow3.frozen j
            have r0 := hb2.cellv p0
            have r1 := hb2.cellv p1
            have r2 := hb2.cellv p2
            have s0 := hb2.cellv q0
            have s1 := hb2.cellv q1
            have s2 := hb2.cellv q2
            clear p0 p1 p2 q0 q1 q2 hfz hrow2
            go_wp2
            go_region
            go_wp2
            go_roundw
            case rel =>
              have t1 := hrow3.set3 (k := m + 1) (t := y) (fun _ => rfl) (by omega) rfl
              have t2 := t1.1.set3 (k := m) (t := x) (fun _ => rfl) (by omega) rfl
              exact ⟨m, _, by omega, rfl, H1.out hxy, t2.1.keep (Bw.drew (Bw.refl _)), hg2.trans (hb2.toGrown.weaken.trans (t1.2.trans (t2.2.trans (Bw.drew (Bw.refl _)).toGrown.weaken)))⟩
            case measure => simp [intOf]
          · have hge := cmpI_nonneg hxy
            generalize hcv : cmpI x.due y.due = cv at hge
            have HC := Lib.hid hcv
            have hd : decide (cv < 0) = false := by simp; omega
            clear hcv
            go_wp2
            (refine wp_region_ext (by kernel_rfl) (by kernel_rfl) ?_; (repeat (go_big_quiet_step (exact Ext.calls (c_byDue1 _ _ _ _ _ _ HC.out _)))); (with_reducible refine wpQuiet_nil ?_); intro w2 hb2)
            go_wp2
            go_roundw
            case rel => exact ⟨k + 1, by omega, .inl (by omega), by go_num, by rw [HN.out, ← H2.out HS.out hxy]; exact hrow2.keep hb2, hg2.trans hb2.toGrown.weaken⟩
            case measure => simp [intOf]; omega
    · go_wp2
      go_end0
      have HD := Lib.hid (show sortD ts = sortD (ts.take k) ++ ts.drop k by
        rw [List.take_of_length_le (by rw [HL.out]; omega), List.drop_of_length_le (by rw [HL.out]; omega)]; simp)
      rw [HD.out]
      exact ⟨rfl, hrow, hg⟩
theorem c_stable (A : Option Addr) (n c : Nat) (ts : List Timer) (lo : Nat) (w : World) (hm : n ≤ 19) (hasc : ts.Pairwise (fun a b => a.id < b.id)) (hrw : Row w lo 26 3 Timer.cells A n c ts) :
    Calls Try.prog 73 #[.slice A n c, .int .i64 n, .func (.func 70) #[] #[]] w fun e w' => e = .returned (.tuple #[]) ∧ Row w' lo 26 3 Timer.cells A n c (sortD ts) ∧ w.grownBy w' (Value.ownBlock (.slice A n c)) := by
  go_enter Try.func73, Try.ntmps73
  have h1 : ¬ (20 : Int) ≤ (n : Int) := by omega
  have h2 : ¬ (20 : Int) < (n : Int) := by omega
  have h3 : (n : Int) ≤ 19 := by omega
  go_wp2
  go_loopw [7, 8] (fun v7 v8 wr => v7 = .int .i64 0 ∧ v8 = .int .i64 20 ∧ wr = w) (fun _ _ _ => 0)
  case atStart => exact ⟨rfl, rfl, rfl⟩
  case round =>
    obtain ⟨rfl, rfl, rfl⟩ := hrel
    go_wp2_with fail
    refine (c_isort _ _ _ ts lo _ hm hasc hrw).mono ?_
    rintro e w1 ⟨rfl, row1, hg1⟩
    go_wp2_with fail
    go_loopw [6, 7, 8, 9] (fun v6 v7 v8 v9 wr => v6 = .int .i64 20 ∧ wr = w1) (fun _ _ _ _ _ => 0)
    case atStart => exact ⟨rfl, rfl⟩
    case round =>
      obtain ⟨rfl, rfl⟩ := hrel
      go_wp2
      go_end0
      exact ⟨rfl, row1, hg1⟩
theorem c_sortStable (A : Option Addr) (n c : Nat) (ts : List Timer) (lo : Nat) (w : World) (hm : n ≤ 19) (hasc : ts.Pairwise (fun a b => a.id < b.id)) (hrw : Row w lo 26 3 Timer.cells A n c ts) :
    Calls Try.prog 69 #[.slice A n c, .func (.func 70) #[] #[]] w fun e w' => e = .returned (.tuple #[]) ∧ Row w' lo 26 3 Timer.cells A n c (sortD ts) ∧ w.grownBy w' (Value.ownBlock (.slice A n c)) := by
  go_enter Try.func69, Try.ntmps69
  go_wp2_with fail
  refine (c_stable _ _ _ ts lo _ hm hasc hrw).mono ?_
  rintro e w1 ⟨rfl, row1, hg1⟩
  go_wp2_with fail
  go_end0
  exact ⟨rfl, row1, hg1⟩
theorem c_byDue (A : Option Addr) (n c : Nat) (ts : List Timer) (w : World) (hm : n ≤ 19) (hasc : ts.Pairwise (fun a b => a.id < b.id)) (h : Rd w A n 3 (ts.map Timer.cells)) :
    Calls Try.prog 58 #[.slice A n c] w fun e w' => (∃ A' c', e = .returned (.slice A' n c') ∧ Row w' w.heap.size 26 3 Timer.cells A' n c' (sortD ts)) ∧ Bw w w' := by
  go_enter Try.func58, Try.ntmps58
  go_wp2_with fail
  refine (c_CloneTimer _ _ _ ts _ (by omega) h).mono ?_
  rintro e w1 ⟨⟨A1, c1, rfl, row1⟩, hb1⟩
  have lt1 := row1.lt
  go_wp2_with fail
  refine (c_sortStable _ _ _ ts _ _ hm hasc row1).mono ?_
  rintro e w2 ⟨rfl, row2, hg2⟩
  go_wp2_with fail
  go_ret
  exact ⟨⟨_, _, rfl, row2⟩, Bw.ofRow hb1 hg2 (fun x hx => (lt1 x hx).1)⟩
end Go.Proofs.Ytjejfkndiecmaaa
