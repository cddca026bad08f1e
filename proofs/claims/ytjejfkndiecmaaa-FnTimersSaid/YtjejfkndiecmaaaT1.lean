
/- StopTimer: the program's and the reference's come to one function. -/
import Derived.Test.YtjejfkndiecmaaaK11
import Derived.Test.YtjejfkndiecmaaaK9
namespace Go.Proofs.Ytjejfkndiecmaaa
open Go.RowKit
def notId (id : Int) (t : Timer) : Bool := t.id != id
def wo (ts : List Timer) (id : Int) : List Timer := ts.filter (notId id)
theorem c_l8Without (A : Option Addr) (n c : Nat) (ts : List Timer) (id : Int) (w : World) (hm : n ≤ 100) (h : Rd w A n 3 (ts.map Timer.cells)) :
    Calls Try.prog 60 #[.slice A n c, .int .i64 id] w fun e w' => (∃ A' c', e = .returned (.slice A' (wo ts id).length c') ∧ Row w' w.heap.size 26 3 Timer.cells A' (wo ts id).length c' (wo ts id)) ∧ Bw w w' := by
  have hl := Lib.hid h.tlen
  have HR := Lib.hid (show wo ts id = (ts.take n).filter (notId id) by rw [List.take_of_length_le (by rw [hl.out]; omega)]; rfl)
  go_enter Try.func60, Try.ntmps60
  go_wp2
  go_loopw [5, 6] (fun v i wr => ∃ k : Nat, k ≤ n ∧ i = .int .i64 k ∧ (∃ A c, v = .slice A ((ts.take k).filter (notId id)).length c ∧ Row wr w.heap.size 26 3 Timer.cells A ((ts.take k).filter (notId id)).length c ((ts.take k).filter (notId id))) ∧ Bw w wr) (fun _ i _ => n - (intOf i).toNat)
  case atStart => exact ⟨0, Nat.zero_le _, rfl, ⟨_, _, rfl, Row.empty w _ _ _ _ (Nat.le_refl _)⟩, Bw.alloc (Bw.refl _) _⟩
  case round =>
    obtain ⟨k, hk, rfl, ⟨A', c', rfl, hrow⟩, hbl⟩ := hrel
    have hdl := filt_le (notId id) ts k
    by_cases hlt : k < n
    · obtain ⟨b, off, rfl, hb, hc⟩ := (h.keep hbl).timer (by omega)
      have ⟨h0, h1, h2⟩ := hc k hlt
      clear hc
      have hkt : k < ts.length := by rw [hl.out]; exact hlt
      have Ht := Lib.hid (tAt_lt hkt)
      by_cases hd : (tAt ts k).id = id
      · have hd' : ((tAt ts k).id != id) = false := by simpa using hd
        have HD := Lib.hid (filt_no (notId id) ts k hkt (by rw [← Ht.out]; exact hd'))
        clear hd
        go_wp2
        go_roundw
        case rel => exact ⟨k + 1, by omega, by go_num, by rw [HD.out]; exact ⟨A', c', rfl, hrow⟩, hbl⟩
        case measure => simp [intOf]; omega
      · have hd' : ((tAt ts k).id != id) = true := by simpa using hd
        have HD := Lib.hid (filt_yes (notId id) ts k hkt (by rw [← Ht.out]; exact hd'))
        clear hd
        go_wp2_with (at_builtin; refine append_Timer rfl _ _ rfl _ _ _ _ rfl hrow (tAt ts k) _ rfl _ rfl rfl ?_ ?_ ?_; omega; exact hbl.size; intro A2 c2 w2 hrow2 hg2 hmv2)
        go_roundw
        case rel => exact ⟨k + 1, by omega, by go_num, by rw [HD.out, ← Ht.out]; exact ⟨A2, c2, by simp, by simpa using hrow2⟩, Bw.ofRow hbl hg2 (fun x hx => (hrow.lt x hx).1)⟩
        case measure => simp [intOf]; omega
    · go_wp2
      go_ret
      obtain rfl : k = n := by omega
      rw [HR.out]
      exact ⟨⟨_, _, rfl, hrow⟩, hbl⟩
theorem wo_at {ts : List Timer} (hg : goodT ts = true) {id : Int} {p : Nat} (hp : p < ts.length) (hid : (tAt ts p).id = id) : wo ts id = ts.take p ++ ts.drop (p + 1) := by
  have h1 : ts = ts.take p ++ ts[p] :: ts.drop (p + 1) := by rw [List.getElem_cons_drop, List.take_append_drop]
  have e1 : (ts.take p).filter (notId id) = ts.take p := by
    rw [List.filter_eq_self]
    intro t ht
    obtain ⟨j, hj, rfl⟩ := List.mem_iff_getElem.1 ht
    simp at hj
    have h2 := goodT_lt hg (i := j) (j := p) (by omega) hp
    rw [tAt_lt (by omega), hid] at h2
    simp [notId]; omega
  have e2 : (ts.drop (p + 1)).filter (notId id) = ts.drop (p + 1) := by
    rw [List.filter_eq_self]
    intro t ht
    obtain ⟨j, hj, rfl⟩ := List.mem_iff_getElem.1 ht
    simp at hj
    have h2 := goodT_lt hg (i := p) (j := p + 1 + j) (by omega) (by omega)
    rw [tAt_lt (show p + 1 + j < ts.length by omega), hid] at h2
    simp [notId]; omega
  have e3 : [ts[p]].filter (notId id) = [] := by
    rw [tAt_lt hp] at hid
    simp [notId, hid]
  unfold wo
  conv => lhs; rw [h1]
  rw [List.filter_append, e1, show ts[p] :: ts.drop (p + 1) = [ts[p]] ++ ts.drop (p + 1) from rfl, List.filter_append, e2, e3]
  rfl
def stopT (ts : List Timer) (id : Int) : List Timer := if goodT ts = true ∧ 0 ≤ findI ts id then wo ts id else []
def stopB (ts : List Timer) (id : Int) : Bool := goodT ts && decide (0 ≤ findI ts id)
theorem wo_len (ts : List Timer) (id : Int) : (wo ts id).length ≤ ts.length := List.length_filter_le _ _
theorem c_sStopTimer (A : Option Addr) (n c : Nat) (ts : List Timer) (id : Int) (w : World) (hn : n ≤ 9223372036854775807) (h : Rd w A n 3 (ts.map Timer.cells)) :
    Calls Try.prog 29 #[.slice A n c, .int .i64 id] w fun e w' => (∃ A' c', e = .returned (.tuple #[.slice A' (stopT ts id).length c', .bool (stopB ts id)]) ∧ Row w' w.heap.size 26 3 Timer.cells A' (stopT ts id).length c' (stopT ts id)) ∧ Bw w w' := by
  have hl := Lib.hid h.tlen
  rcases search_ways ts id with hg | ⟨hg, hf, hr⟩ | ⟨hg, k, hk, hp, hi, hf, hid, hr⟩
  · have HR := Lib.hid (show stopT ts id = [] ∧ stopB ts id = false by simp [stopT, stopB, hg])
    have Hg := Lib.hid hg
    clear hg
    go_enter Try.func29, Try.ntmps29
    go_wp2_with (first | (go_at_call 41; refine (c_l8Good _ _ _ ts Hg.out _ hn h).mono ?_; rintro e w1 ⟨rfl, hb1⟩))
    go_ret2
    rw [HR.out.1, HR.out.2]
    exact ⟨⟨_, _, rfl, (Row.empty w1 _ _ _ _ hb1.size)⟩, hb1.alloc _⟩
  · have HR := Lib.hid (show stopT ts id = [] ∧ stopB ts id = false by simp [stopT, stopB, hf])
    have Hg := Lib.hid hg
    have Hf := Lib.hid hf
    clear hg hf hr
    go_enter Try.func29, Try.ntmps29
    go_wp2_with (first | (go_at_call 41; refine (c_l8Good _ _ _ ts Hg.out _ hn h).mono ?_; rintro e w1 ⟨rfl, hb1⟩) | (go_at_call 46; refine (c_l8Find _ _ _ ts id Hf.out _ hn (h.keep hb1)).mono ?_; rintro e w2 ⟨rfl, rfl⟩))
    go_ret2
    rw [HR.out.1, HR.out.2]
    exact ⟨⟨_, _, rfl, (Row.empty w1 _ _ _ _ hb1.size)⟩, hb1.alloc _⟩
  · have HR := Lib.hid (show stopT ts id = wo ts id ∧ stopB ts id = true by simp [stopT, stopB, hg, hf])
    have hn10 : n ≤ 100 := by have := (goodT_iff.1 hg).2; rw [hl.out] at this; omega
    have Hg := Lib.hid hg
    have Hf := Lib.hid hf
    clear hg hf hr hp hi hid
    go_enter Try.func29, Try.ntmps29
    go_wp2_with (first | (go_at_call 41; refine (c_l8Good _ _ _ ts Hg.out _ hn h).mono ?_; rintro e w1 ⟨rfl, hb1⟩) | (go_at_call 46; refine (c_l8Find _ _ _ ts id Hf.out _ hn (h.keep hb1)).mono ?_; rintro e w2 ⟨rfl, rfl⟩))
    refine (c_l8Without _ _ _ ts id _ hn10 (h.keep hb1)).mono ?_
    rintro e w3 ⟨⟨A3, c3, rfl, row3⟩, hb3⟩
    go_wp2_with fail
    go_ret2
    rw [HR.out.1, HR.out.2]
    exact ⟨⟨_, _, rfl, row3.mono hb1.size⟩, hb1.trans hb3⟩
theorem c_iStopTimer (A : Option Addr) (n c : Nat) (ts : List Timer) (id : Int) (w : World) (hn : n ≤ 9223372036854775807) (h : Rd w A n 3 (ts.map Timer.cells)) :
    Calls Try.prog 28 #[.slice A n c, .int .i64 id] w fun e w' => (∃ A' c', e = .returned (.tuple #[.slice A' (stopT ts id).length c', .bool (stopB ts id)]) ∧ Row w' w.heap.size 26 3 Timer.cells A' (stopT ts id).length c' (stopT ts id)) ∧ Bw w w' := by
  have hl := Lib.hid h.tlen
  rcases search_ways ts id with hg | ⟨hg, hf, hr⟩ | ⟨hg, k, hk, hp, hi, hf, hid, hr⟩
  · have HR := Lib.hid (show stopT ts id = [] ∧ stopB ts id = false by simp [stopT, stopB, hg])
    have Hg := Lib.hid hg
    clear hg
    go_enter Try.func28, Try.ntmps28
    go_wp2_with (first | (go_at_call 43; refine (c_hasNot _ _ _ ts id Hg.out _ hn h).mono ?_; rintro e w1 ⟨rfl, hb1⟩))
    go_ret2
    rw [HR.out.1, HR.out.2]
    exact ⟨⟨_, _, rfl, Row.nil _ _ _ _ _⟩, hb1⟩
  · have HR := Lib.hid (show stopT ts id = [] ∧ stopB ts id = false by simp [stopT, stopB, hf])
    have Hg := Lib.hid hg
    generalize hp : posT ts id = p at hr
    rw [hl.out] at hr
    have Hp := Lib.hid hp
    have Hr := Lib.hid hr
    clear hg hf hr hp
    go_enter Try.func28, Try.ntmps28
    go_wp2_with (first | (go_at_call 43; refine (c_hasTimer _ _ _ ts id Hg.out Hp.out (r := false) Hr.out _ h).mono ?_; rintro e w1 ⟨rfl, hb1⟩; have hr1 := hb1.rule))
    go_ret2
    rw [HR.out.1, HR.out.2]
    exact ⟨⟨_, _, rfl, Row.nil _ _ _ _ _⟩, hb1⟩
  · have hwo := wo_at hg hk hid
    have HR := Lib.hid (show stopT ts id = ts.take k ++ ts.drop (k + 1) ∧ stopB ts id = true by simp [stopT, stopB, hg, hf, hwo])
    have hn10 : n ≤ 10 := by have := (goodT_iff.1 hg).2; rw [hl.out] at this; omega
    have hkn : k < n := by rw [← hl.out]; exact hk
    have HL := Lib.hid (show (ts.take k ++ ts.drop (k + 1)).length = k + (n - (k + 1)) by simp [hl.out]; omega)
    rw [hl.out] at hr
    have Hr := Lib.hid hr
    have Hp := Lib.hid hp
    have Hg := Lib.hid hg
    clear hg hf hr hp hi hid hwo hk
    go_enter Try.func28, Try.ntmps28
    go_wp2_with (first | (go_at_call 43; refine (c_hasTimer _ _ _ ts id Hg.out Hp.out (r := true) Hr.out _ h).mono ?_; rintro e w1 ⟨rfl, hb1⟩; have hr1 := hb1.rule))
    refine (c_CloneTimer _ _ _ ts _ (by omega) (h.keep hb1)).mono ?_
    rintro e w2 ⟨⟨A2, c2, rfl, row2⟩, hb2⟩
    have lt2 := row2.lt
    go_wp2_with fail
    rw [show ((k : Int) + 1) = ((k + 1 : Nat) : Int) from by omega]
    refine (c_DeleteTimer _ _ _ ts k (k + 1) _ _ (by omega) (by omega) (by omega) row2).mono ?_
    rintro e w3 ⟨rfl, row3, hg3⟩
    go_wp2_with fail
    go_ret2
    rw [HR.out.1, HR.out.2, HL.out]
    exact ⟨⟨_, _, rfl, row3.mono hb1.size⟩, Bw.ofRow (hb1.trans hb2) hg3 (fun x hx => Nat.le_trans hb1.size (lt2 x hx).1)⟩
end Go.Proofs.Ytjejfkndiecmaaa
