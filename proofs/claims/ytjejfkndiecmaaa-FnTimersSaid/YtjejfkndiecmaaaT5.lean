
/- DueTimers: the program's and the reference's come to one function. -/
import Derived.Test.YtjejfkndiecmaaaT3
import Derived.Test.YtjejfkndiecmaaaK17
import Derived.Test.YtjejfkndiecmaaaI
namespace Go.Proofs.Ytjejfkndiecmaaa
open Go.RowKit
theorem sorted_uniq {l1 l2 : List Timer} (h : l1.Perm l2) (s1 : l1.Pairwise ltD) (s2 : l2.Pairwise ltD) : l1 = l2 := by
  refine List.Perm.eq_of_pairwise (le := ltD) (fun a b _ _ h1 h2 => ?_) s1 s2 h
  unfold ltD at h1 h2
  omega
theorem asc_ne {ts : List Timer} (ha : ts.Pairwise (fun a b => a.id < b.id)) : ts.Pairwise (fun a b => a.id ≠ b.id) := ha.imp (fun h => by omega)
theorem sortD_ne {ts : List Timer} (ha : ts.Pairwise (fun a b => a.id < b.id)) : (sortD ts).Pairwise (fun a b => a.id ≠ b.id) :=
  ((sortD_perm ha).pairwise_iff (fun h => Ne.symm h)).2 (asc_ne ha)
theorem wo_asc {ts : List Timer} (ha : ts.Pairwise (fun a b => a.id < b.id)) (id : Int) : (wo ts id).Pairwise (fun a b => a.id < b.id) := ha.sublist List.filter_sublist
theorem sortD_wo {ts : List Timer} (ha : ts.Pairwise (fun a b => a.id < b.id)) {f : Timer} {S : List Timer} (h : sortD ts = f :: S) : sortD (wo ts f.id) = S := by
  have hp := sortD_perm ha
  have hs := sortD_sorted ha
  have hn := sortD_ne ha
  rw [h] at hp hs hn
  rw [List.pairwise_cons] at hs hn
  have hw := wo_asc ha f.id
  refine sorted_uniq ((sortD_perm hw).trans ?_) (sortD_sorted hw) hs.2
  have e1 : (f :: S).filter (notId f.id) = S := by
    rw [List.filter_cons_of_neg (by simp [notId]), List.filter_eq_self]
    intro t ht
    have := hn.1 t ht
    simp [notId]; omega
  have := hp.filter (notId f.id)
  rw [e1] at this
  exact this.symm
def dueF (now : Int) (t : Timer) : Bool := decide (t.due ≤ now)
def dueL (ts : List Timer) (now : Int) : List Int := ((sortD ts).filter (dueF now)).map (·.id)
theorem due_split {l : List Timer} (hs : l.Pairwise ltD) {now : Int} {k : Nat} (h1 : ∀ t ∈ l.take k, t.due ≤ now) (h2 : ∀ (h : k < l.length), now < l[k].due) : l.filter (dueF now) = l.take k := by
  have e1 : (l.take k).filter (dueF now) = l.take k := by
    rw [List.filter_eq_self]; intro t ht; simpa [dueF] using h1 t ht
  have e2 : (l.drop k).filter (dueF now) = [] := by
    rw [List.filter_eq_nil_iff]
    intro t ht
    obtain ⟨j, hj, rfl⟩ := List.mem_iff_getElem.1 ht
    simp at hj
    rw [List.getElem_drop]
    have h3 := h2 (by omega)
    rcases Nat.eq_zero_or_pos j with rfl | h4
    · simp [dueF]; omega
    · have h5 := List.pairwise_iff_getElem.1 hs k (k + j) (by omega) (by omega) (by omega)
      unfold ltD at h5
      simp [dueF]; omega
  conv => lhs; rw [← List.take_append_drop k l]
  rw [List.filter_append, e1, e2, List.append_nil]
/-- The state of the reference's loop: k timers are out. -/
structure DueSt (ts : List Timer) (now : Int) (os : List Int) (rs : List Timer) : Prop where
  asc : rs.Pairwise (fun a b => a.id < b.id)
  ex : ∃ k, sortD rs = (sortD ts).drop k ∧ os = ((sortD ts).take k).map (·.id) ∧ ∀ t ∈ (sortD ts).take k, t.due ≤ now
theorem DueSt.start {ts : List Timer} (ha : ts.Pairwise (fun a b => a.id < b.id)) (now : Int) : DueSt ts now [] ts := ⟨ha, 0, by simp, by simp, by simp⟩
theorem DueSt.step {ts rs : List Timer} {now : Int} {os : List Int} (h : DueSt ts now os rs) {f : Timer} (h0 : 0 < rs.length) (hf : tAt (sortD rs) 0 = f) (hd : f.due ≤ now) : DueSt ts now (os ++ [f.id]) (wo rs f.id) := by
  obtain ⟨k, h1, h2, h3⟩ := h.ex
  cases hq : sortD rs with
  | nil => have := sortD_len h.asc; rw [hq] at this; simp at this; omega
  | cons g S =>
    rw [hq] at hf h1
    obtain rfl : g = f := by simpa [tAt] using hf
    refine ⟨wo_asc h.asc _, k + 1, ?_, ?_, ?_⟩
    · rw [sortD_wo h.asc hq, ← List.drop_drop, ← h1]; rfl
    · have hk : k < (sortD ts).length := by have := congrArg List.length h1; simp at this; omega
      have e1 : (sortD ts)[k] = g := by
        have := List.drop_eq_getElem_cons hk
        rw [← h1] at this; exact (List.cons.inj this).1.symm
      rw [List.take_succ_eq_append_getElem hk, e1, List.map_append, h2]; rfl
    · have hk : k < (sortD ts).length := by have := congrArg List.length h1; simp at this; omega
      have e1 : (sortD ts)[k] = g := by
        have := List.drop_eq_getElem_cons hk
        rw [← h1] at this; exact (List.cons.inj this).1.symm
      rw [List.take_succ_eq_append_getElem hk, e1]
      intro t ht
      rcases List.mem_append.1 ht with ht | ht
      · exact h3 t ht
      · simp at ht; subst ht; exact hd
theorem DueSt.len {ts rs : List Timer} {now : Int} {os : List Int} (ha : ts.Pairwise (fun a b => a.id < b.id)) (h : DueSt ts now os rs) : os.length + rs.length = ts.length := by
  obtain ⟨k, h1, h2, h3⟩ := h.ex
  have e1 := sortD_len h.asc
  have e2 := sortD_len ha
  rw [h1] at e1
  rw [h2]
  simp at e1 ⊢
  omega
theorem DueSt.done {ts rs : List Timer} {now : Int} {os : List Int} (ha : ts.Pairwise (fun a b => a.id < b.id)) (h : DueSt ts now os rs) (hd : rs.length = 0 ∨ now < (tAt (sortD rs) 0).due) : os = dueL ts now := by
  obtain ⟨k, h1, h2, h3⟩ := h.ex
  rw [h2, dueL, due_split (sortD_sorted ha) h3]
  intro hk
  have e1 := sortD_len h.asc
  rw [h1] at e1
  simp at e1
  rcases hd with hd | hd
  · omega
  · rw [h1, tAt, List.getD_eq_getElem?_getD, List.getElem?_drop, Nat.add_zero, List.getElem?_eq_getElem hk] at hd
    exact hd
def dueR (ts : List Timer) (now : Int) : List Int := if goodT ts && inR now 0 10000 then dueL ts now else []
def dueB (ts : List Timer) (now : Int) : Bool := goodT ts && inR now 0 10000
theorem dueR_len (ts : List Timer) (now : Int) : (dueR ts now).length ≤ ts.length := by
  unfold dueR
  split
  · rename_i h
    simp only [Bool.and_eq_true] at h
    have h1 := sortD_len (goodT_asc h.1)
    have h2 := List.length_filter_le (dueF now) (sortD ts)
    simp [dueL]; omega
  · simp
theorem due_no {ts : List Timer} {now : Int} (h : dueB ts now = false) : dueR ts now = [] := by
  unfold dueB at h; unfold dueR; rw [h]; rfl
theorem due_yes {ts : List Timer} {now : Int} (h : dueB ts now = true) : dueR ts now = dueL ts now := by
  unfold dueB at h; unfold dueR; rw [h]; rfl
theorem dueL_succ (S : List Timer) (now : Int) (k : Nat) (hk : k < S.length) : ((S.take (k + 1)).filter (dueF now)).map (·.id) = ((S.take k).filter (dueF now)).map (·.id) ++ if (tAt S k).due ≤ now then [(tAt S k).id] else [] := by
  rw [filt_succ _ S k hk, List.map_append, tAt_lt hk]
  congr 1
  unfold dueF
  by_cases h : S[k].due ≤ now <;> simp [h]
set_option maxRecDepth 100000 in
theorem c_sDueTimers (A : Option Addr) (n c : Nat) (ts : List Timer) (now : Int) (w : World) (hn : n ≤ 9223372036854775807) (h : Rd w A n 3 (ts.map Timer.cells)) :
    Calls Try.prog 25 #[.slice A n c, .int .i64 now] w fun e w' => (∃ A' c', e = .returned (.tuple #[.slice A' (dueR ts now).length c', .bool (dueB ts now)]) ∧ Row w' w.heap.size 3 1 icell A' (dueR ts now).length c' (dueR ts now)) ∧ Bw w w' := by
  have hl := Lib.hid h.tlen
  cases hb : dueB ts now
  · have HR := Lib.hid (due_no hb)
    cases hg : goodT ts
    · clear hb
      go_enter Try.func25, Try.ntmps25
      go_wp2_with (go_at_call 41; refine (c_l8Good _ _ _ ts hg _ hn (h.keep (by (repeat (first | with_reducible assumption | exact Bw.refl _ | (with_reducible refine Bw.setCell ?_ (by simp) _) | (with_reducible refine Bw.alloc ?_ _) | (with_reducible refine Bw.drew ?_) | (with_reducible refine Bw.drewN ?_ _)))))).mono ?_; rintro e w1 ⟨rfl, hb1⟩)
      go_ret2
      rw [HR.out]
      exact ⟨⟨_, _, rfl, (Row.empty w _ _ _ _ (Nat.le_refl _)).keep hb1⟩, Bw.trans (by (repeat (first | with_reducible assumption | exact Bw.refl _ | (with_reducible refine Bw.setCell ?_ (by simp) _) | (with_reducible refine Bw.alloc ?_ _) | (with_reducible refine Bw.drew ?_) | (with_reducible refine Bw.drewN ?_ _)))) hb1⟩
    · have ht : inR now 0 10000 = false := by simpa [dueB, hg] using hb
      clear hb
      go_enter Try.func25, Try.ntmps25
      go_wp2_with (first | (go_at_call 41; refine (c_l8Good _ _ _ ts hg _ hn (h.keep (by (repeat (first | with_reducible assumption | exact Bw.refl _ | (with_reducible refine Bw.setCell ?_ (by simp) _) | (with_reducible refine Bw.alloc ?_ _) | (with_reducible refine Bw.drew ?_) | (with_reducible refine Bw.drewN ?_ _)))))).mono ?_; rintro e w1 ⟨rfl, hb1⟩) | (go_at_call 55; refine (c_l8Tick _ ht _).mono ?_; rintro e w1 ⟨rfl, rfl⟩))
      go_ret2
      rw [HR.out]
      exact ⟨⟨_, _, rfl, (Row.empty w _ _ _ _ (Nat.le_refl _)).keep hb1⟩, Bw.trans (by (repeat (first | with_reducible assumption | exact Bw.refl _ | (with_reducible refine Bw.setCell ?_ (by simp) _) | (with_reducible refine Bw.alloc ?_ _) | (with_reducible refine Bw.drew ?_) | (with_reducible refine Bw.drewN ?_ _)))) hb1⟩
  · have HR := Lib.hid (due_yes hb)
    simp only [dueB, Bool.and_eq_true] at hb
    obtain ⟨hg, ht⟩ := hb
    have HA := Lib.hid (goodT_asc hg)
    have hn10 : n ≤ 10 := by have := (goodT_iff.1 hg).2; rw [hl.out] at this; omega
    have Hg := Lib.hid hg
    obtain ⟨i0, hi, hz0, hz1, hz2⟩ := info_parts infoTimer
    have Hi := Lib.hid hi
    have Hz0 := Lib.hid hz0
    have Hz1 := Lib.hid hz1
    have Hz2 := Lib.hid hz2
    clear hi hz0 hz1 hz2 hg
    go_enter Try.func25, Try.ntmps25
    go_wp2_with (first | (go_at_call 41; refine (c_l8Good _ _ _ ts Hg.out _ hn (h.keep (by (repeat (first | with_reducible assumption | exact Bw.refl _ | (with_reducible refine Bw.setCell ?_ (by simp) _) | (with_reducible refine Bw.alloc ?_ _) | (with_reducible refine Bw.drew ?_) | (with_reducible refine Bw.drewN ?_ _)))))).mono ?_; rintro e w1 ⟨rfl, hb1⟩) | (go_at_call 55; refine (c_l8Tick _ ht _).mono ?_; rintro e w1 ⟨rfl, rfl⟩) | (at_builtin; refine wpList_append_rd (enc := Timer.cells) rfl _ _ 24 rfl w1.heap.size 26 i0 _ 3 24 Try.underlying24 Hi.out Hz0.out Hz1.out Hz2.out rfl (by decide) (fun _ => rfl) oneTimer _ _ _ _ rfl (Row.empty w1 w1.heap.size _ _ _ (Nat.le_refl _)) _ n _ ts rfl (h.keep (Bw.trans (Bw.trans (Bw.alloc (Bw.refl _) _) hb1) (Bw.alloc (Bw.refl _) _))) ?_ ?_ ?_ ?_; (unfold maxLen; omega); omega; simp; intro A2 c2 w2 hrow2 hg2 hmv2 hnn2))
    have hs1 : w.heap.size < w1.heap.size := by have := hb1.size; simp at this; omega
    have hb2 : Bw w w2 := Bw.ofRow (Bw.trans (Bw.trans (Bw.alloc (Bw.refl _) _) hb1) (Bw.alloc (Bw.refl _) _)) hg2 (fun x hx => by simp at hx; subst hx; simp; omega)
    have hout := ((Row.empty (T := Int) w w.heap.size 3 1 icell (Nat.le_refl _)).keep (hb1.trans (Bw.alloc (Bw.refl _) _))).grown hg2 (fun x hx => by simp at hx; subst hx; simp [Value.ownBlock]; omega)
    have hap : Apart (some ⟨w.heap.size, 0, none⟩) A2 := fun x y hx hy he => by
      have := (hrow2.lt y hy).1
      simp at hx; subst hx; simp at he; omega
    rw [Nat.zero_add, List.nil_append] at hrow2
    have hrd2 := hrow2.rd (fun _ => rfl)
    go_loopw [6, 7] (fun v6 v7 wr => ∃ (os : List Int) (rs : List Timer) (A : Option Addr) (c : Nat) (B : Option Addr) (d : Nat), v6 = .slice A os.length c ∧ v7 = .slice B rs.length d ∧ Row wr w.heap.size 3 1 icell A os.length c os ∧ Rd wr B rs.length 3 (rs.map Timer.cells) ∧ Apart A B ∧ DueSt ts now os rs ∧ Bw w wr) (fun _ v7 _ => lenV v7)
    case atStart => exact ⟨[], ts, _, _, _, _, rfl, by rw [hl.out], hout, by rw [hl.out]; exact hrd2, hap, DueSt.start HA.out now, hb2⟩
    case round =>
      obtain ⟨os, rs, A', c', B', d', rfl, rfl, hrow, hrd, hapr, hst, hbl⟩ := hrel
      have hsl := hst.len HA.out
      rw [hl.out] at hsl
      by_cases h0 : 0 < rs.length
      · generalize hf : tAt (sortD rs) 0 = f
        have HF := Lib.hid hf
        have HS := Lib.hid hst.asc
        obtain ⟨b, off, rfl, hb, hc⟩ := hrd.timer h0
        have h0' : (0 : Int) < (rs.length : Int) := by omega
        by_cases hd : f.due ≤ now
        · have hst2 := hst.step h0 hf hd
          have hsl2 := hst2.len HA.out
          rw [hl.out] at hsl2
          have HD := Lib.hid hst2
          clear hf hst hst2
          go_wp2_with fail
          refine (c_l8First _ _ _ rs _ (by omega) h0 HS.out hrd).mono ?_
          rintro e w3 ⟨⟨p, rfl, hp, hpt⟩, hb3⟩
          have ⟨q0, q1, q2⟩ := hc p hp
          rw [hpt, HF.out] at q0 q1 q2
          have r0 := hb3.cellv q0
          have r1 := hb3.cellv q1
          clear q0 q1 q2 hpt
          go_wp2_with fail
          refine (c_l8First _ _ _ rs _ (by omega) h0 HS.out (hrd.keep hb3)).mono ?_
          rintro e w4 ⟨⟨p', rfl, hp', hpt'⟩, hb4⟩
          have ⟨q0, q1, q2⟩ := hc p' hp'
          rw [hpt', HF.out] at q0 q1 q2
          have s0 := hb4.cellv (hb3.cellv q0)
          have hb34 := hb3.trans hb4
          have hrow4 := hrow.keep hb34
          have hbl4 := hbl.trans hb34
          clear q0 q1 q2 hpt' hc r0 r1
          go_wp2_with (at_builtin; refine append_int rfl _ _ rfl _ _ _ _ rfl hrow4 _ _ rfl rfl ?_ ?_ ?_; omega; exact hbl4.size; intro A5 c5 w5 hrow5 hg5 hmv5)
          refine (c_l8Without _ _ _ rs f.id _ (by omega) ((hrd.keep hb34).apart hg5 hapr)).mono ?_
          rintro e w6 ⟨⟨B6, d6, rfl, row6⟩, hb6⟩
          have hb5 := Bw.ofRow hbl4 hg5 (fun x hx => (hrow4.lt x hx).1)
          go_wp2_with fail
          go_roundw
          case rel => exact ⟨os ++ [f.id], wo rs f.id, A5, c5, B6, d6, by simp, rfl, by simpa using hrow5.keep hb6, row6.rd (fun _ => rfl), hrow5.later row6 (Nat.le_refl _), HD.out, hb5.trans hb6⟩
          case measure => simp [lenV] at hsl2 ⊢; omega
        · have HD := Lib.hid (hst.done HA.out (.inr (by rw [hf]; omega)))
          clear hf hst
          go_wp2_with fail
          refine (c_l8First _ _ _ rs _ (by omega) h0 HS.out hrd).mono ?_
          rintro e w3 ⟨⟨p, rfl, hp, hpt⟩, hb3⟩
          have ⟨q0, q1, q2⟩ := hc p hp
          rw [hpt, HF.out] at q0 q1 q2
          have r0 := hb3.cellv q0
          have r1 := hb3.cellv q1
          clear q0 q1 q2 hpt hc
          go_wp2_with fail
          go_ret2
          rw [HR.out, ← HD.out]
          exact ⟨⟨_, _, rfl, hrow.keep hb3⟩, hbl.trans hb3⟩
      · have HD := Lib.hid (hst.done HA.out (.inl (by omega)))
        have h0' : rs.length = 0 := by omega
        rw [h0']
        clear hst
        go_wp2_with fail
        go_ret2
        rw [HR.out, ← HD.out]
        exact ⟨⟨_, _, rfl, hrow⟩, hbl⟩
set_option maxRecDepth 100000 in
theorem c_iDueTimers (A : Option Addr) (n c : Nat) (ts : List Timer) (now : Int) (w : World) (hn : n ≤ 9223372036854775807) (h : Rd w A n 3 (ts.map Timer.cells)) :
    Calls Try.prog 24 #[.slice A n c, .int .i64 now] w fun e w' => (∃ A' c', e = .returned (.tuple #[.slice A' (dueR ts now).length c', .bool (dueB ts now)]) ∧ Row w' w.heap.size 3 1 icell A' (dueR ts now).length c' (dueR ts now)) ∧ Bw w w' := by
  have hl := Lib.hid h.tlen
  cases hb : dueB ts now
  · have HR := Lib.hid (due_no hb)
    cases hg : goodT ts
    · clear hb
      go_enter Try.func24, Try.ntmps24
      go_wp2_with (go_at_call 11; refine (c_IsValidTimers _ _ _ ts hg _ hn h).mono ?_; rintro e w1 ⟨rfl, hb1⟩)
      go_ret2
      rw [HR.out]
      exact ⟨⟨_, _, rfl, Row.nil _ _ _ _ _⟩, hb1⟩
    · have ht : inR now 0 10000 = false := by simpa [dueB, hg] using hb
      clear hb
      go_enter Try.func24, Try.ntmps24
      go_wp2_with (first | (go_at_call 11; refine (c_IsValidTimers _ _ _ ts hg _ hn h).mono ?_; rintro e w1 ⟨rfl, hb1⟩) | (go_at_call 44; refine (c_isTick _ ht _).mono ?_; rintro e w1 ⟨rfl, rfl⟩))
      go_ret2
      rw [HR.out]
      exact ⟨⟨_, _, rfl, Row.nil _ _ _ _ _⟩, hb1⟩
  · have HR := Lib.hid (due_yes hb)
    simp only [dueB, Bool.and_eq_true] at hb
    obtain ⟨hg, ht⟩ := hb
    have HA := Lib.hid (goodT_asc hg)
    have hn10 : n ≤ 10 := by have := (goodT_iff.1 hg).2; rw [hl.out] at this; omega
    have Hg := Lib.hid hg
    have hSl := sortD_len HA.out
    rw [hl.out] at hSl
    clear hg
    go_enter Try.func24, Try.ntmps24
    go_wp2_with (first | (go_at_call 11; refine (c_IsValidTimers _ _ _ ts Hg.out _ hn h).mono ?_; rintro e w1 ⟨rfl, hb1⟩) | (go_at_call 44; refine (c_isTick _ ht _).mono ?_; rintro e w1 ⟨rfl, rfl⟩))
    refine (c_byDue _ _ _ ts _ (by omega) HA.out (h.keep hb1)).mono ?_
    rintro e w2 ⟨⟨Aq, cq, rfl, row2⟩, hb2⟩
    have hb12 := hb1.trans hb2
    have HD := Lib.hid (show dueL ts now = (((sortD ts).take n).filter (dueF now)).map (·.id) by rw [List.take_of_length_le (by omega)]; rfl)
    generalize sortD ts = S at row2 HD hSl
    have HS := Lib.hid hSl
    have hrd2 := row2.rd (fun _ => rfl)
    clear hSl
    go_wp2_with fail
    go_loopw [6, 20] (fun v i wr => ∃ k : Nat, k ≤ n ∧ i = .int .i64 k ∧ (∃ A c, v = .slice A (((S.take k).filter (dueF now)).map (·.id)).length c ∧ Row wr w2.heap.size 3 1 icell A (((S.take k).filter (dueF now)).map (·.id)).length c (((S.take k).filter (dueF now)).map (·.id))) ∧ Bw w2 wr) (fun _ i _ => n - (intOf i).toNat)
    case atStart => exact ⟨0, Nat.zero_le _, rfl, ⟨_, _, rfl, Row.nil _ _ _ _ _⟩, Bw.refl _⟩
    case round =>
      obtain ⟨k, hk, rfl, ⟨A', c', rfl, hrow⟩, hbl⟩ := hrel
      by_cases hlt : k < n
      · obtain ⟨b, off, rfl, hb, hc⟩ := (hrd2.keep hbl).timer (by omega)
        have hb' : b < wr.heap.size + 1 := by omega
        have ⟨h0, h1, h2⟩ := hc k hlt
        clear hc
        have hkt : k < S.length := by rw [HS.out]; exact hlt
        have HE := Lib.hid (dueL_succ S now k hkt)
        have hdl : (((S.take k).filter (dueF now)).map (·.id)).length ≤ k := by rw [List.length_map]; exact filt_le (dueF now) S k
        generalize (((S.take k).filter (dueF now)).map (·.id)) = L at hrow HE hdl
        by_cases hd : (tAt S k).due ≤ now
        · have HE2 := Lib.hid (HE.out.trans (by rw [if_pos hd]))
          go_wp2_with (at_builtin; refine append_int rfl _ _ rfl _ _ _ _ rfl (hrow.keep ((Bw.refl _).alloc _)) _ _ rfl ?_ ?_ ?_ ?_; simp; omega; (simp; have := hbl.size; omega); intro A2 c2 w2 hrow2 hg2 hmv2)
          go_roundw
          case rel => exact ⟨k + 1, by omega, by go_num, by rw [HE2.out]; exact ⟨A2, c2, by simp, by simpa using hrow2⟩, Bw.ofRow (hbl.alloc _) hg2 (fun x hx => (hrow.lt x hx).1)⟩
          case measure => simp [intOf]; omega
        · have HE2 := Lib.hid (HE.out.trans (by rw [if_neg hd, List.append_nil]))
          go_wp2
          go_roundw
          case rel => exact ⟨k + 1, by omega, by go_num, by rw [HE2.out]; exact ⟨_, _, rfl, hrow.keep ((Bw.refl _).alloc _)⟩, hbl.alloc _⟩
          case measure => simp [intOf]; omega
      · obtain rfl : k = n := by omega
        generalize (((S.take k).filter (dueF now)).map (·.id)) = L at *
        go_wp2
        go_ret2
        rw [HR.out, HD.out]
        exact ⟨⟨_, _, rfl, hrow.mono hb12.size⟩, hb12.trans hbl⟩
end Go.Proofs.Ytjejfkndiecmaaa
