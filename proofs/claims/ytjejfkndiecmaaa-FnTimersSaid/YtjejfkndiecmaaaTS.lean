
/- SetTimer: the program's and the reference's come to one function. -/
import Derived.Test.YtjejfkndiecmaaaT7
import Derived.Test.YtjejfkndiecmaaaK19
namespace Go.Proofs.Ytjejfkndiecmaaa
open Go.RowKit
theorem asc_split {a b : List Timer} {t : Timer} (ha : a.Pairwise (fun a b => a.id < b.id)) (hb : b.Pairwise (fun a b => a.id < b.id)) (h1 : ∀ x ∈ a, x.id < t.id) (h2 : ∀ x ∈ b, t.id < x.id) : (a ++ [t] ++ b).Pairwise (fun a b => a.id < b.id) := by
  rw [List.append_assoc, List.pairwise_append]
  refine ⟨ha, List.pairwise_cons.2 ⟨h2, hb⟩, fun x hx y hy => ?_⟩
  have := h1 x hx
  rcases List.mem_cons.1 hy with rfl | hy
  · exact this
  · have := h2 y hy; omega
theorem pos_parts {ts : List Timer} (ha : ts.Pairwise (fun a b => a.id < b.id)) (id : Int) : (∀ t ∈ ts.take (posT ts id), t.id < id) ∧ ∀ t ∈ ts.drop (posT ts id), id ≤ t.id := by
  constructor
  · intro t ht
    obtain ⟨j, hj, rfl⟩ := List.mem_iff_getElem.1 ht
    simp at hj
    rw [List.getElem_take, ← tAt_lt (by omega)]
    exact posT_lo (by omega)
  · intro t ht
    obtain ⟨j, hj, rfl⟩ := List.mem_iff_getElem.1 ht
    simp at hj
    rw [List.getElem_drop]
    have hp : posT ts id < ts.length := by omega
    have h1 : id ≤ ts[posT ts id].id := by
      have := List.findIdx_getElem (w := hp)
      simp only [decide_eq_true_eq] at this
      exact this
    rcases Nat.eq_zero_or_pos j with rfl | h0
    · exact h1
    · have := List.pairwise_iff_getElem.1 ha (posT ts id) (posT ts id + j) (by omega) (by omega) (by omega)
      omega
theorem putT_asc {ts : List Timer} (ha : ts.Pairwise (fun a b => a.id < b.id)) (t : Timer) : (putT ts t).Pairwise (fun a b => a.id < b.id) := by
  have hw := wo_asc ha t.id
  have ⟨h1, h2⟩ := pos_parts hw t.id
  unfold putT
  refine asc_split (hw.sublist (List.take_sublist _ _)) (hw.sublist (List.drop_sublist _ _)) h1 (fun x hx => ?_)
  have h3 := h2 x hx
  have h4 := (List.mem_filter.1 (List.mem_of_mem_drop hx)).2
  simp [notId] at h4
  omega
theorem putT_good {ts : List Timer} (hg : goodT ts = true) (t : Timer) : goodT (putT ts t) = (okT t && decide ((putT ts t).length ≤ 10)) := by
  have ⟨h1, h2, h3⟩ := goodT_iff2.1 hg
  have hm : ∀ x ∈ putT ts t, x = t ∨ x ∈ ts := fun x hx => by
    unfold putT at hx
    rw [List.append_assoc] at hx
    rcases List.mem_append.1 hx with hx | hx
    · exact .inr (List.mem_filter.1 (List.mem_of_mem_take hx)).1
    · rcases List.mem_append.1 hx with hx | hx
      · exact .inl (by simpa using hx)
      · exact .inr (List.mem_filter.1 (List.mem_of_mem_drop hx)).1
  have ht : t ∈ putT ts t := by simp [putT]
  rw [Bool.eq_iff_iff, goodT_iff2]
  simp only [Bool.and_eq_true, decide_eq_true_eq]
  constructor
  · rintro ⟨a, _, c⟩; exact ⟨a t ht, c⟩
  · rintro ⟨a, c⟩
    refine ⟨fun x hx => ?_, putT_asc h2 t, c⟩
    rcases hm x hx with rfl | hx
    · exact a
    · exact h1 x hx
def setB (ts : List Timer) (t : Timer) : Bool := goodT ts && goodT (putT ts t)
def setR (ts : List Timer) (t : Timer) : List Timer := if setB ts t then putT ts t else []
theorem putT_len_le (ts : List Timer) (t : Timer) : (putT ts t).length ≤ ts.length + 1 := by
  have := putT_len ts t
  have := wo_len ts t.id
  omega
theorem setR_len (ts : List Timer) (t : Timer) : (setR ts t).length ≤ 10 := by
  unfold setR; split
  · rename_i h
    simp only [setB, Bool.and_eq_true] at h
    exact (goodT_iff2.1 h.2).2.2
  · simp
theorem set_yes {ts : List Timer} {t : Timer} (h : setB ts t = true) : setR ts t = putT ts t := by simp [setR, h]
theorem set_no {ts : List Timer} {t : Timer} (h : setB ts t = false) : setR ts t = [] := by simp [setR, h]
set_option maxRecDepth 100000 in
theorem c_sSetTimer (A : Option Addr) (n c : Nat) (ts : List Timer) (t : Timer) (w : World) (hn : n ≤ 9223372036854775807) (h : Rd w A n 3 (ts.map Timer.cells)) :
    Calls Try.prog 8 #[.slice A n c, .agg #[.int .i64 t.id, .int .i64 t.due, .int .i64 t.per]] w fun e w' => (∃ A' c', e = .returned (.tuple #[.slice A' (setR ts t).length c', .bool (setB ts t)]) ∧ Row w' w.heap.size 26 3 Timer.cells A' (setR ts t).length c' (setR ts t)) ∧ Bw w w' := by
  have hl := Lib.hid h.tlen
  have ha := (Bw.refl w).alloc (.cells #[.int .i64 t.id, .int .i64 t.due, .int .i64 t.per] 26)
  cases hg : goodT ts
  · have HR := Lib.hid (show setR ts t = [] ∧ setB ts t = false by simp [setR, setB, hg])
    go_enter Try.func8, Try.ntmps8
    go_wp2_with (go_at_call 41; refine (c_l8Good _ _ _ ts hg _ hn (h.keep ha)).mono ?_; rintro e w1 ⟨rfl, hb1⟩)
    have hb01 := ha.trans hb1
    go_ret2
    rw [HR.out.1, HR.out.2]
    exact ⟨⟨_, _, rfl, (Row.empty w1 _ _ _ _ hb01.size)⟩, hb01.alloc _⟩
  · have hn10 : n ≤ 10 := by have := (goodT_iff.1 hg).2; rw [hl.out] at this; omega
    have Hg := Lib.hid hg
    have hpl := putT_len_le ts t
    rw [hl.out] at hpl
    cases hg2 : goodT (putT ts t)
    · have HR := Lib.hid (show setR ts t = [] ∧ setB ts t = false by simp [setR, setB, hg2])
      have Hg2 := Lib.hid hg2
      clear hg hg2
      go_enter Try.func8, Try.ntmps8
      go_wp2_with (go_at_call 41; refine (c_l8Good _ _ _ ts Hg.out _ hn (h.keep ha)).mono ?_; rintro e w1 ⟨rfl, hb1⟩; have d0 := hb1.cellv (p := ⟨w.heap.size, 0, none⟩) (v := .int .i64 t.id) (by go_simp); have d1 := hb1.cellv (p := ⟨w.heap.size, 1, none⟩) (v := .int .i64 t.due) (by go_simp); have d2 := hb1.cellv (p := ⟨w.heap.size, 2, none⟩) (v := .int .i64 t.per) (by go_simp))
      have hb01 := ha.trans hb1
      refine (c_l8Put _ _ _ ts t _ (by omega) (h.keep hb01)).mono ?_
      rintro e w2 ⟨⟨A2, c2, rfl, row2⟩, hb2⟩
      have rd2 := row2.rd (fun _ => rfl)
      generalize putT ts t = pt at *
      go_wp2_with fail
      refine (c_l8Good _ _ _ pt Hg2.out _ (by omega) rd2).mono ?_
      rintro e w3 ⟨rfl, hb3⟩
      have hb03 := (hb01.trans hb2).trans hb3
      go_wp2_with fail
      go_ret2
      rw [HR.out.1, HR.out.2]
      exact ⟨⟨_, _, rfl, (Row.empty w3 _ _ _ _ hb03.size)⟩, hb03.alloc _⟩
    · have HR := Lib.hid (show setR ts t = putT ts t ∧ setB ts t = true by simp [setR, setB, hg2, hg])
      have Hg2 := Lib.hid hg2
      clear hg hg2
      go_enter Try.func8, Try.ntmps8
      go_wp2_with (go_at_call 41; refine (c_l8Good _ _ _ ts Hg.out _ hn (h.keep ha)).mono ?_; rintro e w1 ⟨rfl, hb1⟩; have d0 := hb1.cellv (p := ⟨w.heap.size, 0, none⟩) (v := .int .i64 t.id) (by go_simp); have d1 := hb1.cellv (p := ⟨w.heap.size, 1, none⟩) (v := .int .i64 t.due) (by go_simp); have d2 := hb1.cellv (p := ⟨w.heap.size, 2, none⟩) (v := .int .i64 t.per) (by go_simp))
      have hb01 := ha.trans hb1
      have HPut := fun W (hh : Bw w W) => c_l8Put _ _ c ts t W (by omega) (h.keep hh)
      refine (HPut _ hb01).mono ?_
      rintro e w2 ⟨⟨A2, c2, rfl, row2⟩, hb2⟩
      have rd2 := row2.rd (fun _ => rfl)
      generalize putT ts t = pt at *
      go_wp2_with fail
      refine (c_l8Good _ _ _ pt Hg2.out _ (by omega) rd2).mono ?_
      rintro e w3 ⟨rfl, hb3⟩
      have hb13 := hb2.trans hb3
      have hb03 := hb01.trans hb13
      have e0 := hb13.cellv d0
      have e1 := hb13.cellv d1
      have e2 := hb13.cellv d2
      go_wp2_with fail
      refine (HPut _ hb03).mono ?_
      rintro e w4 ⟨⟨A4, c4, rfl, row4⟩, hb4⟩
      go_wp2_with fail
      go_ret2
      rw [HR.out.1, HR.out.2]
      exact ⟨⟨_, _, rfl, row4.mono hb03.size⟩, hb03.trans hb4⟩
set_option maxRecDepth 100000 in
set_option maxHeartbeats 1000000 in
theorem c_iSetTimer (A : Option Addr) (n c : Nat) (ts : List Timer) (t : Timer) (w : World) (hn : n ≤ 9223372036854775807) (h : Rd w A n 3 (ts.map Timer.cells)) :
    Calls Try.prog 7 #[.slice A n c, .agg #[.int .i64 t.id, .int .i64 t.due, .int .i64 t.per]] w fun e w' => (∃ A' c', e = .returned (.tuple #[.slice A' (setR ts t).length c', .bool (setB ts t)]) ∧ Row w' w.heap.size 26 3 Timer.cells A' (setR ts t).length c' (setR ts t)) ∧ Bw w w' := by
  have hl := Lib.hid h.tlen
  have ha := (Bw.refl w).alloc (.cells #[.int .i64 t.id, .int .i64 t.due, .int .i64 t.per] 26)
  cases hg : goodT ts
  · have HR := Lib.hid (show setR ts t = [] ∧ setB ts t = false by simp [setR, setB, hg])
    go_enter Try.func7, Try.ntmps7
    go_wp2_with (go_at_call 11; refine (c_IsValidTimers _ _ _ ts hg _ hn (h.keep ha)).mono ?_; rintro e w1 ⟨rfl, hb1⟩)
    go_ret2
    rw [HR.out.1, HR.out.2]
    exact ⟨⟨_, _, rfl, Row.nil _ _ _ _ _⟩, ha.trans hb1⟩
  · have hn10 : n ≤ 10 := by have := (goodT_iff.1 hg).2; rw [hl.out] at this; omega
    have HPg := Lib.hid (putT_good hg t)
    have Hg := Lib.hid hg
    cases ho : okT t
    · have HR := Lib.hid (show setR ts t = [] ∧ setB ts t = false by simp [setR, setB, HPg.out, ho])
      clear hg
      go_enter Try.func7, Try.ntmps7
      go_wp2_with (first | (go_at_call 11; refine (c_IsValidTimers _ _ _ ts Hg.out _ hn (h.keep ha)).mono ?_; rintro e w1 ⟨rfl, hb1⟩; have d0 := hb1.cellv (p := ⟨w.heap.size, 0, none⟩) (v := .int .i64 t.id) (by go_simp); have d1 := hb1.cellv (p := ⟨w.heap.size, 1, none⟩) (v := .int .i64 t.due) (by go_simp); have d2 := hb1.cellv (p := ⟨w.heap.size, 2, none⟩) (v := .int .i64 t.per) (by go_simp)) | (go_at_call 37; refine (c_isTimer t.id t.due t.per ho _).mono ?_; rintro e w2 ⟨rfl, hb2⟩))
      go_ret2
      rw [HR.out.1, HR.out.2]
      exact ⟨⟨_, _, rfl, Row.nil _ _ _ _ _⟩, (ha.trans hb1).trans hb2⟩
    · have HO := Lib.hid ho
      rcases search_ways ts t.id with hg' | ⟨_, hf, hr⟩ | ⟨_, k, hk, hp, hi, hf, hid, hr⟩
      · rw [hg] at hg'; cases hg'
      · have HN := Lib.hid (putT_new hf)
        have hpl := posT_le ts t.id
        have HQ := Lib.hid (show (putT ts t).length = n + 1 by rw [HN.out]; have := hl.out; simp; omega)
        generalize hp : posT ts t.id = p at *
        rw [hl.out] at hr hpl
        have Hr := Lib.hid hr
        have Hp := Lib.hid hp
        clear hg hf hr hp
        go_enter Try.func7, Try.ntmps7
        go_wp2_with (first | (go_at_call 11; refine (c_IsValidTimers _ _ _ ts Hg.out _ hn (h.keep ha)).mono ?_; rintro e w1 ⟨rfl, hb1⟩; have d0 := hb1.cellv (p := ⟨w.heap.size, 0, none⟩) (v := .int .i64 t.id) (by go_simp); have d1 := hb1.cellv (p := ⟨w.heap.size, 1, none⟩) (v := .int .i64 t.due) (by go_simp); have d2 := hb1.cellv (p := ⟨w.heap.size, 2, none⟩) (v := .int .i64 t.per) (by go_simp)) | (go_at_call 37; refine (c_isTimer t.id t.due t.per HO.out _).mono ?_; rintro e w2 ⟨rfl, hb2⟩))
        have hb02 := (ha.trans hb1).trans hb2
        refine (c_CloneTimer _ _ _ ts _ (by omega) (h.keep hb02)).mono ?_
        rintro e w3 ⟨⟨A3, c3, rfl, row3⟩, hb3⟩
        have hb23 := hb2.trans hb3
        have e0 := hb23.cellv d0
        have e1 := hb23.cellv d1
        have e2 := hb23.cellv d2
        clear d0 d1 d2
        go_wp2_with fail
        refine (c_findTimer _ _ _ ts t.id Hg.out Hp.out Hr.out _ (row3.rd (fun _ => rfl))).mono ?_
        rintro e w4 ⟨rfl, hb4⟩
        have d0 := hb4.cellv e0
        have d1 := hb4.cellv e1
        have d2 := hb4.cellv e2
        clear e0 e1 e2
        go_wp2_with fail
        refine (c_InsertTimer _ _ _ ts p t #[.int .i64 t.id, .int .i64 t.due, .int .i64 t.per] rfl w2.heap.size _ (by omega) hpl (by have := hb3.size; have := hb4.size; omega) (row3.keep hb4)).mono ?_
        rintro e w5 ⟨⟨A5, c5, rfl, row5⟩, hg5⟩
        have hbE : Bw w w5 := Bw.ofRow ((hb02.trans hb3).trans hb4) hg5 (fun x hx => Nat.le_trans hb02.size (row3.lt x hx).1)
        by_cases h10 : n + 1 ≤ 10
        · have HR := Lib.hid (show setR ts t = putT ts t ∧ setB ts t = true by simp [setR, setB, HPg.out, Hg.out, HO.out, HQ.out, h10])
          have h10' : ¬ (10 : Int) < (n : Int) + 1 := by omega
          go_wp2_with fail
          go_ret2
          rw [HR.out.1, HR.out.2, HQ.out, HN.out]
          exact ⟨⟨_, _, rfl, row5.mono hb02.size⟩, hbE⟩
        · have HR := Lib.hid (show setR ts t = [] ∧ setB ts t = false by simp [setR, setB, HPg.out, HQ.out, h10])
          have h10' : (10 : Int) < (n : Int) + 1 := by omega
          go_wp2_with fail
          go_ret2
          rw [HR.out.1, HR.out.2]
          exact ⟨⟨_, _, rfl, Row.nil _ _ _ _ _⟩, hbE⟩
      · have HN := Lib.hid (putT_at hg hk hid)
        have HQ := Lib.hid (show (putT ts t).length = n by rw [HN.out, List.length_set, hl.out])
        have HR := Lib.hid (show setR ts t = putT ts t ∧ setB ts t = true by simp [setR, setB, HPg.out, Hg.out, ho, HQ.out, hn10])
        rw [hl.out] at hr
        have hkn : k < n := by rw [← hl.out]; exact hk
        have Hr := Lib.hid hr
        have Hp := Lib.hid hp
        clear hg hf hr hp hi hid hk
        go_enter Try.func7, Try.ntmps7
        go_wp2_with (first | (go_at_call 11; refine (c_IsValidTimers _ _ _ ts Hg.out _ hn (h.keep ha)).mono ?_; rintro e w1 ⟨rfl, hb1⟩; have d0 := hb1.cellv (p := ⟨w.heap.size, 0, none⟩) (v := .int .i64 t.id) (by go_simp); have d1 := hb1.cellv (p := ⟨w.heap.size, 1, none⟩) (v := .int .i64 t.due) (by go_simp); have d2 := hb1.cellv (p := ⟨w.heap.size, 2, none⟩) (v := .int .i64 t.per) (by go_simp)) | (go_at_call 37; refine (c_isTimer t.id t.due t.per HO.out _).mono ?_; rintro e w2 ⟨rfl, hb2⟩))
        have hb02 := (ha.trans hb1).trans hb2
        refine (c_CloneTimer _ _ _ ts _ (by omega) (h.keep hb02)).mono ?_
        rintro e w3 ⟨⟨A3, c3, rfl, row3⟩, hb3⟩
        have hb23 := hb2.trans hb3
        have e0 := hb23.cellv d0
        have e1 := hb23.cellv d1
        have e2 := hb23.cellv d2
        clear d0 d1 d2
        go_wp2_with fail
        refine (c_findTimer _ _ _ ts t.id Hg.out Hp.out Hr.out _ (row3.rd (fun _ => rfl))).mono ?_
        rintro e w4 ⟨rfl, hb4⟩
        have d0 := hb4.cellv e0
        have d1 := hb4.cellv e1
        have d2 := hb4.cellv e2
        clear e0 e1 e2
        have row4 := row3.keep hb4
        obtain ⟨g, rfl, hlo, hgl, hfz, hcc⟩ := row4.timer (by omega)
        have ⟨q0, q1, q2⟩ := hcc k hkn
        clear hcc
        have h10' : ¬ (10 : Int) < (n : Int) := by omega
        go_wp2_with fail
        go_ret2
        have hs := row4.setN (t := t) (vs := [.int .i64 t.id, .int .i64 t.due, .int .i64 t.per]) (fun _ => rfl) hkn rfl
        rw [HR.out.1, HR.out.2, HQ.out, HN.out]
        exact ⟨⟨_, _, rfl, hs.1.mono hb02.size⟩, ((hb02.trans hb3).trans hb4).grown hs.2 (fun x hx => by simp at hx; subst hx; exact Nat.le_trans hb02.size hlo)⟩
end Go.Proofs.Ytjejfkndiecmaaa
