
/- ConfirmRequest: the program's and the reference's come to one function. -/
import Derived.Test.YtnejeigcdogolaaR8
import Derived.Test.YtnejeigcdogolaaK13
namespace Go.Proofs.Ytnejeigcdogolaa
open Go.RowKit
def hasR (ts : List Request) (base number : Int) : Bool := decide (posR ts base number < ts.length) && decide ((requestAt ts (posR ts base number)).number = number)
def confAt (ts : List Request) (p : Nat) (number clock : Int) : List Request := ts.set p ⟨number, 3, clock + 4, (requestAt ts p).tries⟩
def confL (ts : List Request) (base number clock : Int) : List Request := if hasR ts base number then confAt ts (posR ts base number) number clock else ts
theorem confL_len (ts : List Request) (base number clock : Int) : (confL ts base number clock).length = ts.length := by
  unfold confL confAt; split <;> simp
set_option maxRecDepth 100000 in
theorem c_l12Confirm (A : Option Addr) (n c : Nat) (ts : List Request) (base number clock : Int) (hok : ∀ j, j < ts.length → 0 ≤ (requestAt ts j).number ∧ (requestAt ts j).number ≤ 65535) (b0 : 0 ≤ base) (b1 : base ≤ 65535) (n0 : 0 ≤ number) (n1 : number ≤ 65535) (k0 : 0 ≤ clock) (k1 : clock ≤ 9999)
    {L : List Request} (hL : confL ts base number clock = L) (w : World) (hn : n ≤ 100) (h : Rd w A n 4 (ts.map Request.cells)) :
    Calls Try.prog 59 #[.slice A n c, .int .i64 base, .int .i64 number, .int .i64 clock] w fun e w' => (∃ A' c', e = .returned (.slice A' n c') ∧ Row w' w.heap.size 37 4 Request.cells A' n c' L) ∧ Bw w w' := by
  have hl := Lib.hid h.requestlen
  have Hok := Lib.hid hok
  have HL := Lib.hid hL
  clear hok hL
  obtain ⟨i0, hi, hz0, hz1, hz2⟩ := info_parts infoRequest
  have Hi := Lib.hid hi
  have Hz0 := Lib.hid hz0
  have Hz1 := Lib.hid hz1
  have Hz2 := Lib.hid hz2
  clear hi hz0 hz1 hz2
  generalize hp : posR ts base number = p
  have HP := Lib.hid hp
  have hpn : p ≤ n := by have := posR_le ts base number; rw [hl.out, hp] at this; exact this
  by_cases hq : p < n ∧ (requestAt ts p).number = number
  · have hr : (decide (p < n) && decide ((requestAt ts p).number = number)) = true := by simp [hq]
    have Hr := Lib.hid hr
    have hpn' := hq.1
    have HV := Lib.hid (show L = confAt ts p number clock by rw [← HL.out, confL, if_pos (by simp [hasR, hp, hl.out, hq]), hp])
    obtain ⟨b, off, rfl, hb, hc⟩ := h.request (by omega)
    have ⟨h0, h1, h2, h3⟩ := hc p hpn'
    clear hc hr hq hp
    go_enter Try.func59, Try.ntmps59
    go_wp2_with (at_builtin; refine wpList_append_rd (enc := Request.cells) rfl _ _ 24 rfl w.heap.size 37 i0 _ 4 32 Try.underlying24 Hi.out Hz0.out Hz1.out Hz2.out rfl (by decide) (fun _ => rfl) ?_ _ _ _ _ rfl (Row.empty w w.heap.size _ _ _ (Nat.le_refl _)) _ n _ ts rfl (h.keep (Bw.alloc (Bw.refl _) _)) ?_ ?_ ?_ ?_; exact oneRequest; (unfold maxLen; omega); omega; simp; intro A2 c2 w2 hrow2 hg2 hmv2 hnn2)
    simp only [Nat.zero_add, List.nil_append] at hrow2
    have hb2 : Bw w w2 := Bw.ofRow (Bw.alloc (Bw.refl _) _) hg2 (fun x hx => by simp at hx; subst hx; simp)
    refine (c_l12Place _ _ _ ts base number Hok.out b0 b1 n0 n1 HP.out Hr.out _ hn (h.keep hb2)).mono ?_
    rintro e w3 ⟨rfl, hb3⟩
    have hrow3 := hrow2.keep hb3
    obtain ⟨g, rfl, hlo, hgl, hfz, hcc⟩ := hrow3.request (by omega)
    have hb23 := hb2.trans hb3
    have q3 := hb23.cellv h3
    have ⟨p0, p1, p2, p3⟩ := hcc p hpn'
    clear hcc
    simp only [Nat.zero_add]
    go_wp2_with fail
    go_ret
    rw [HV.out]
    have hs := hrow3.setN (t := ⟨number, 3, clock + 4, (requestAt ts p).tries⟩) (fun _ => rfl) (show p < n by omega) rfl
    exact ⟨⟨_, _, rfl, hs.1⟩, Bw.grown hb23 hs.2 (fun x hx => by simp at hx; subst hx; exact hlo)⟩
  · have hr : (decide (p < n) && decide ((requestAt ts p).number = number)) = false := by
      simp only [Bool.and_eq_false_iff, decide_eq_false_iff_not]; rcases Decidable.not_and_iff_not_or_not.1 hq with h1 | h1 <;> simp [h1]
    have Hr := Lib.hid hr
    have HV := Lib.hid (show L = ts by rw [← HL.out, confL, if_neg (by simp only [hasR, hp, hl.out, hr]; simp)])
    clear hr hq hp
    go_enter Try.func59, Try.ntmps59
    go_wp2_with (at_builtin; refine wpList_append_rd (enc := Request.cells) rfl _ _ 24 rfl w.heap.size 37 i0 _ 4 32 Try.underlying24 Hi.out Hz0.out Hz1.out Hz2.out rfl (by decide) (fun _ => rfl) ?_ _ _ _ _ rfl (Row.empty w w.heap.size _ _ _ (Nat.le_refl _)) _ n _ ts rfl (h.keep (Bw.alloc (Bw.refl _) _)) ?_ ?_ ?_ ?_; exact oneRequest; (unfold maxLen; omega); omega; simp; intro A2 c2 w2 hrow2 hg2 hmv2 hnn2)
    simp only [Nat.zero_add, List.nil_append] at hrow2
    have hb2 : Bw w w2 := Bw.ofRow (Bw.alloc (Bw.refl _) _) hg2 (fun x hx => by simp at hx; subst hx; simp)
    refine (c_l12Place _ _ _ ts base number Hok.out b0 b1 n0 n1 HP.out Hr.out _ hn (h.keep hb2)).mono ?_
    rintro e w3 ⟨rfl, hb3⟩
    simp only [Nat.zero_add]
    go_wp2_with fail
    go_ret
    rw [HV.out]
    exact ⟨⟨_, _, rfl, hrow2.keep hb3⟩, hb2.trans hb3⟩
def confC (ts : List Request) (base number clock : Int) : Bool := (goodR ts base && inR number 0 65535) && inR clock 0 9999
def confR (ts : List Request) (base number clock : Int) : List Request := if confC ts base number clock then confL ts base number clock else []
def confB (ts : List Request) (base number clock : Int) : Bool := confC ts base number clock
theorem confR_len (ts : List Request) (base number clock : Int) : (confR ts base number clock).length ≤ ts.length := by
  unfold confR; split
  · rw [confL_len]; exact Nat.le_refl _
  · simp
theorem c_sConfirmRequest (A : Option Addr) (n c : Nat) (ts : List Request) (base number clock : Int) (w : World) (hn : n ≤ 9223372036854775807) (h : Rd w A n 4 (ts.map Request.cells)) :
    Calls Try.prog 29 #[.slice A n c, .int .i64 base, .int .i64 number, .int .i64 clock] w fun e w' => (∃ A' c', e = .returned (.tuple #[.slice A' (confR ts base number clock).length c', .bool (confB ts base number clock)]) ∧ Row w' w.heap.size 37 4 Request.cells A' (confR ts base number clock).length c' (confR ts base number clock)) ∧ Bw w w' := by
  have hl := Lib.hid h.requestlen
  cases hg : goodR ts base
  · have HR := Lib.hid (show confR ts base number clock = [] ∧ confB ts base number clock = false by simp [confR, confB, confC, hg])
    go_enter Try.func29, Try.ntmps29
    go_wp2_with (go_at_call 38; refine (c_l12Good _ _ _ ts _ hg _ hn h).mono ?_; rintro e w1 ⟨rfl, hb1⟩)
    go_ret2
    rw [HR.out.1, HR.out.2]
    exact ⟨⟨_, _, rfl, Row.empty w1 _ _ _ _ hb1.size⟩, hb1.alloc _⟩
  · have hn8 : n ≤ 8 := by rw [← hl.out]; exact (goodR_iff.1 hg).2.1
    cases ht : inR number 0 65535
    · have HR := Lib.hid (show confR ts base number clock = [] ∧ confB ts base number clock = false by simp [confR, confB, confC, ht])
      go_enter Try.func29, Try.ntmps29
      go_wp2_with (first | (go_at_call 38; refine (c_l12Good _ _ _ ts _ hg _ hn h).mono ?_; rintro e w1 ⟨rfl, hb1⟩) | (go_at_call 45; refine (c_l2Good _ ht _).mono ?_; rintro e w1 ⟨rfl, rfl⟩))
      go_ret2
      rw [HR.out.1, HR.out.2]
      exact ⟨⟨_, _, rfl, Row.empty w1 _ _ _ _ hb1.size⟩, hb1.alloc _⟩
    · have ⟨x0, x1⟩ := inR_iff.1 ht
      cases hk : inR clock 0 9999
      · have HR := Lib.hid (show confR ts base number clock = [] ∧ confB ts base number clock = false by simp [confR, confB, confC, hk])
        go_enter Try.func29, Try.ntmps29
        go_wp2_with (first | (go_at_call 38; refine (c_l12Good _ _ _ ts _ hg _ hn h).mono ?_; rintro e w1 ⟨rfl, hb1⟩) | (go_at_call 45; refine (c_l2Good _ ht _).mono ?_; rintro e w2 ⟨rfl, rfl⟩) | (go_at_call 39; refine (c_l11Clock _ hk _).mono ?_; rintro e w2 ⟨rfl, rfl⟩))
        go_ret2
        rw [HR.out.1, HR.out.2]
        exact ⟨⟨_, _, rfl, Row.empty w1 _ _ _ _ hb1.size⟩, hb1.alloc _⟩
      · have ⟨y0, y1⟩ := inR_iff.1 hk
        have ⟨b0, b1⟩ := goodR_base hg
        have HLL := Lib.hid ((confL_len ts base number clock).trans hl.out)
        generalize hLL : confL ts base number clock = L at HLL
        have HLE := Lib.hid hLL
        have HR := Lib.hid (show confR ts base number clock = L ∧ confB ts base number clock = true by simp [confR, confB, confC, hk, ht, hg, hLL])
        have Hok := Lib.hid (show ∀ j, j < ts.length → 0 ≤ (requestAt ts j).number ∧ (requestAt ts j).number ≤ 65535 from fun j hj => (goodR_bd hg hj).1)
        clear hLL
        have Hg := Lib.hid hg
        clear hg
        go_enter Try.func29, Try.ntmps29
        go_wp2_with (first | (go_at_call 38; refine (c_l12Good _ _ _ ts _ Hg.out _ hn h).mono ?_; rintro e w1 ⟨rfl, hb1⟩) | (go_at_call 45; refine (c_l2Good _ ht _).mono ?_; rintro e w2 ⟨rfl, rfl⟩) | (go_at_call 39; refine (c_l11Clock _ hk _).mono ?_; rintro e w2 ⟨rfl, rfl⟩))
        refine (c_l12Confirm _ _ _ ts _ _ _ Hok.out b0 b1 x0 x1 y0 y1 HLE.out _ (by omega) (h.keep hb1)).mono ?_
        rintro e w3 ⟨⟨A3, c3, rfl, row3⟩, hb3⟩
        go_wp2_with fail
        go_ret2
        rw [HR.out.1, HR.out.2, HLL.out]
        exact ⟨⟨_, _, rfl, row3.mono hb1.size⟩, hb1.trans hb3⟩
set_option maxRecDepth 100000 in
theorem c_iConfirmRequest (A : Option Addr) (n c : Nat) (ts : List Request) (base number clock : Int) (w : World) (hn : n ≤ 9223372036854775807) (h : Rd w A n 4 (ts.map Request.cells)) :
    Calls Try.prog 28 #[.slice A n c, .int .i64 base, .int .i64 number, .int .i64 clock] w fun e w' => (∃ A' c', e = .returned (.tuple #[.slice A' (confR ts base number clock).length c', .bool (confB ts base number clock)]) ∧ Row w' w.heap.size 37 4 Request.cells A' (confR ts base number clock).length c' (confR ts base number clock)) ∧ Bw w w' := by
  have hl := Lib.hid h.requestlen
  cases hg : goodR ts base
  · have HR := Lib.hid (show confR ts base number clock = [] ∧ confB ts base number clock = false by simp [confR, confB, confC, hg])
    go_enter Try.func28, Try.ntmps28
    go_wp2_with (go_at_call 12; refine (c_AreRequests _ _ _ ts _ hg _ hn h).mono ?_; rintro e w1 ⟨rfl, hb1⟩)
    go_ret2
    rw [HR.out.1, HR.out.2]
    exact ⟨⟨_, _, rfl, Row.nil _ _ _ _ _⟩, hb1⟩
  · have hn8 : n ≤ 8 := by rw [← hl.out]; exact (goodR_iff.1 hg).2.1
    cases ht : inR number 0 65535
    · have HR := Lib.hid (show confR ts base number clock = [] ∧ confB ts base number clock = false by simp [confR, confB, confC, ht])
      go_enter Try.func28, Try.ntmps28
      go_wp2_with (first | (go_at_call 12; refine (c_AreRequests _ _ _ ts _ hg _ hn h).mono ?_; rintro e w1 ⟨rfl, hb1⟩) | (go_at_call 42; refine (c_IsSerial _ ht _).mono ?_; rintro e w1 ⟨rfl, rfl⟩))
      go_ret2
      rw [HR.out.1, HR.out.2]
      exact ⟨⟨_, _, rfl, Row.nil _ _ _ _ _⟩, hb1⟩
    · have ⟨x0, x1⟩ := inR_iff.1 ht
      cases hk : inR clock 0 9999
      · have HR := Lib.hid (show confR ts base number clock = [] ∧ confB ts base number clock = false by simp [confR, confB, confC, hk])
        go_enter Try.func28, Try.ntmps28
        go_wp2_with (first | (go_at_call 12; refine (c_AreRequests _ _ _ ts _ hg _ hn h).mono ?_; rintro e w1 ⟨rfl, hb1⟩) | (go_at_call 42; refine (c_IsSerial _ ht _).mono ?_; rintro e w2 ⟨rfl, rfl⟩) | (go_at_call 35; refine (c_isClock _ hk _).mono ?_; rintro e w2 ⟨rfl, rfl⟩))
        go_ret2
        rw [HR.out.1, HR.out.2]
        exact ⟨⟨_, _, rfl, Row.nil _ _ _ _ _⟩, hb1⟩
      · have ⟨y0, y1⟩ := inR_iff.1 hk
        have HLL := Lib.hid ((confL_len ts base number clock).trans hl.out)
        have HR := Lib.hid (show confR ts base number clock = confL ts base number clock ∧ confB ts base number clock = true by simp [confR, confB, confC, hk, ht, hg])
        have Hg := Lib.hid hg
        clear hg
        generalize hp : posR ts base number = p
        have HP := Lib.hid hp
        have hpn : p ≤ n := by have := posR_le ts base number; rw [hl.out, hp] at this; exact this
        by_cases hq : p < n ∧ (requestAt ts p).number = number
        · have Hr := Lib.hid (show (decide (p < n) && decide ((requestAt ts p).number = number)) = true by simp [hq])
          have hpn' := hq.1
          have hpt : p < ts.length := by rw [hl.out]; exact hpn'
          have HV := Lib.hid (show confL ts base number clock = confAt ts p number clock by rw [confL, if_pos (by simp [hasR, hp, hl.out, hq]), hp])
          have HN := Lib.hid hq.2
          have HT := Lib.hid (requestAt_lt hpt)
          clear hq hp
          go_enter Try.func28, Try.ntmps28
          go_wp2_with (first | (go_at_call 12; refine (c_AreRequests _ _ _ ts _ Hg.out _ hn h).mono ?_; rintro e w1 ⟨rfl, hb1⟩) | (go_at_call 42; refine (c_IsSerial _ ht _).mono ?_; rintro e w2 ⟨rfl, rfl⟩) | (go_at_call 35; refine (c_isClock _ hk _).mono ?_; rintro e w2 ⟨rfl, rfl⟩))
          refine (c_CloneRequest _ _ _ ts _ (by omega) (h.keep hb1)).mono ?_
          rintro e w3 ⟨⟨A3, c3, rfl, row3⟩, hb3⟩
          go_wp2_with fail
          refine (c_findRequest _ _ _ ts base number Hg.out x0 x1 HP.out Hr.out _ (row3.rd (fun _ => rfl))).mono ?_
          rintro e w4 ⟨rfl, hb4⟩
          have row4 := row3.keep hb4
          obtain ⟨g, rfl, hlo, hgl, hfz, hcc⟩ := row4.request (by omega)
          have ⟨p0, p1, p2, p3⟩ := hcc p hpn'
          clear hcc
          go_wp2_with fail
          go_ret2
          have s1 := row4.setAt (k := p) (j := 1) (v := .int .i64 3) (t' := ⟨(requestAt ts p).number, 3, (requestAt ts p).til, (requestAt ts p).tries⟩) (fun _ => rfl) hpt (by omega) (by rw [HT.out]; rfl)
          have s2 := s1.1.setAt (k := p) (j := 2) (v := .int .i64 (clock + 4)) (t' := ⟨number, 3, clock + 4, (requestAt ts p).tries⟩) (fun _ => rfl) (by simpa using hpt) (by omega) (by rw [List.getElem_set_self]; show _ = [_, _, _, _]; rw [HN.out]; rfl)
          rw [HR.out.1, HR.out.2, HLL.out, HV.out]
          rw [List.set_set] at s2
          exact ⟨⟨_, _, rfl, s2.1.mono hb1.size⟩, Bw.grown (hb1.trans (hb3.trans hb4)) (s1.2.trans s2.2) (fun x hx => by simp at hx; subst hx; have := hb1.size; omega)⟩
        · have Hr := Lib.hid (show (decide (p < n) && decide ((requestAt ts p).number = number)) = false by
            simp only [Bool.and_eq_false_iff, decide_eq_false_iff_not]; rcases Decidable.not_and_iff_not_or_not.1 hq with h1 | h1 <;> simp [h1])
          have HV := Lib.hid (show confL ts base number clock = ts by rw [confL, if_neg (by simp only [hasR, hp, hl.out, Hr.out]; simp)])
          clear hq hp
          go_enter Try.func28, Try.ntmps28
          go_wp2_with (first | (go_at_call 12; refine (c_AreRequests _ _ _ ts _ Hg.out _ hn h).mono ?_; rintro e w1 ⟨rfl, hb1⟩) | (go_at_call 42; refine (c_IsSerial _ ht _).mono ?_; rintro e w2 ⟨rfl, rfl⟩) | (go_at_call 35; refine (c_isClock _ hk _).mono ?_; rintro e w2 ⟨rfl, rfl⟩))
          refine (c_CloneRequest _ _ _ ts _ (by omega) (h.keep hb1)).mono ?_
          rintro e w3 ⟨⟨A3, c3, rfl, row3⟩, hb3⟩
          go_wp2_with fail
          refine (c_findRequest _ _ _ ts base number Hg.out x0 x1 HP.out Hr.out _ (row3.rd (fun _ => rfl))).mono ?_
          rintro e w4 ⟨rfl, hb4⟩
          go_wp2_with fail
          go_ret2
          rw [HR.out.1, HR.out.2, HLL.out, HV.out]
          exact ⟨⟨_, _, rfl, (row3.keep hb4).mono hb1.size⟩, hb1.trans (hb3.trans hb4)⟩
end Go.Proofs.Ytnejeigcdogolaa
