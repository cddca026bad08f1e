
/- RunTimers: the program's and the reference's come to one function. -/
import Derived.Test.YtjejfkndiecmaaaT6
namespace Go.Proofs.Ytjejfkndiecmaaa
open Go.RowKit
theorem pos_first {ts : List Timer} (hg : goodT ts = true) (h0 : 0 < ts.length) : posT ts (tAt (sortD ts) 0).id = firstI ts ∧ (decide (firstI ts < ts.length) && decide ((tAt ts (firstI ts)).id = (tAt (sortD ts) 0).id)) = true := by
  have ⟨h1, h2⟩ := first_mem (goodT_asc hg) h0
  refine ⟨?_, by simp [h1, h2]⟩
  rcases search_ways ts (tAt (sortD ts) 0).id with hg' | ⟨_, hf, _⟩ | ⟨_, k, hk, hp, hi, _⟩
  · rw [hg] at hg'; cases hg'
  · unfold findI at hf
    have h3 : idxT ts (tAt (sortD ts) 0).id < ts.length := h1
    rw [if_pos h3] at hf; omega
  · rw [hp]; exact hi.symm
/-- The state of the loops: what has fired, what is left. -/
structure RunSt (ts : List Timer) (now : Int) (os : List Int) (rs : List Timer) : Prop where
  good : goodT rs = true
  le : os.length ≤ 50
  is : runT now (50 - os.length) rs os = runR ts now
theorem RunSt.start {ts : List Timer} {now : Int} (hg : goodT ts = true) (ht : inR now 0 10000 = true) : RunSt ts now [] ts := ⟨hg, by simp, by simp [runR, hg, ht]⟩
theorem RunSt.stop {ts rs : List Timer} {now : Int} {os : List Int} (h : RunSt ts now os rs) (hd : ¬ (0 < rs.length ∧ (tAt (sortD rs) 0).due ≤ now)) : runR ts now = (rs, os, true) := by rw [← h.is, runT_stop hd]
theorem RunSt.full {ts rs : List Timer} {now : Int} {os : List Int} (h : RunSt ts now os rs) (h0 : 0 < rs.length) (hd : (tAt (sortD rs) 0).due ≤ now) (h5 : os.length = 50) : runR ts now = ([], [], false) := by
  rw [← h.is, h5, Nat.sub_self, runT_full ⟨h0, hd⟩]
theorem RunSt.step {ts rs : List Timer} {now : Int} {os : List Int} (h : RunSt ts now os rs) (h0 : 0 < rs.length) (hd : (tAt (sortD rs) 0).due ≤ now) (h5 : os.length < 50) : RunSt ts now (os ++ [(tAt (sortD rs) 0).id]) (fireT rs (firstI rs)) := by
  refine ⟨fireT_good h.good (first_mem (goodT_asc h.good) h0).1, by simp; omega, ?_⟩
  rw [← h.is, show 50 - os.length = (50 - (os ++ [(tAt (sortD rs) 0).id]).length) + 1 by simp; omega, runT_step ⟨h0, hd⟩]
theorem run_no {ts : List Timer} {now : Int} (h : dueB ts now = false) : runR ts now = ([], [], false) := by unfold dueB at h; unfold runR; rw [h]; rfl
theorem runR_lens (ts : List Timer) (now : Int) : (runR ts now).1.length ≤ ts.length ∧ (runR ts now).2.1.length ≤ 50 := by
  unfold runR; split
  · rename_i h
    simp only [Bool.and_eq_true] at h
    have := runT_lens (now := now) 50 ts [] h.1
    simpa using this
  · simp
/-- The two rows of a result. -/
structure Duo (w : World) (lo : Nat) (A : Option Addr) (c : Nat) (ts : List Timer) (B : Option Addr) (d : Nat) (is : List Int) : Prop where
  a : Row w lo 26 3 Timer.cells A ts.length c ts
  b : Row w lo 3 1 icell B is.length d is
  ab : Apart A B
theorem Duo.keep {w w' : World} {lo : Nat} {A : Option Addr} {c : Nat} {ts : List Timer} {B : Option Addr} {d : Nat} {is : List Int} (h : Duo w lo A c ts B d is) (hb : Bw w w') : Duo w' lo A c ts B d is := ⟨h.a.keep hb, h.b.keep hb, h.ab⟩
theorem Duo.mono {w : World} {lo lo' : Nat} {A : Option Addr} {c : Nat} {ts : List Timer} {B : Option Addr} {d : Nat} {is : List Int} (h : Duo w lo A c ts B d is) (hl : lo' ≤ lo) : Duo w lo' A c ts B d is := ⟨h.a.mono hl, h.b.mono hl, h.ab⟩
theorem Duo.nils (w : World) (lo : Nat) : Duo w lo none 0 [] none 0 [] := ⟨Row.nil _ _ _ _ _, Row.nil _ _ _ _ _, Apart.noneL⟩
/-- A number is appended to the second row. -/
theorem Duo.push {w w' : World} {lo : Nat} {A : Option Addr} {c : Nat} {ts : List Timer} {B B2 : Option Addr} {d d2 : Nat} {is : List Int} {x : Int} (h : Duo w lo A c ts B d is) (hr : Row w' lo 3 1 icell B2 (is.length + 1) d2 (is ++ [x])) (hg : w.grownBy w' (Value.ownBlock (.slice B is.length d))) (hm : ∃ z, B2 = some z ∧ (w.heap.size < z.block ∨ ∃ y, B = some y ∧ z.block = y.block)) : Duo w' lo A c ts B2 d2 (is ++ [x]) :=
  ⟨h.a.apart hg h.ab.symm, by simpa using hr, (h.ab.symm.moved h.a (Nat.le_refl _) hm).symm⟩
theorem Row.notOwn {T : Type} {w : World} {lo : Nat} {e : TypeId} {sz : Nat} {enc : T → List Value} {B : Option Addr} {n c : Nat} {ts : List T} (h : Row w lo e sz enc B n c ts) {g m d : Nat} (hg : w.heap.size ≤ g) : some g ≠ Value.ownBlock (.slice B m d) := fun he => by
  cases B with
  | none => simp [Value.ownBlock] at he
  | some y =>
    have := (h.lt y rfl).2
    simp only [Value.ownBlock, Option.some.injEq] at he
    omega
set_option maxRecDepth 100000 in
set_option maxHeartbeats 1000000 in
theorem c_sRunTimers (A : Option Addr) (n c : Nat) (ts : List Timer) (now : Int) (w : World) (hn : n ≤ 9223372036854775807) (h : Rd w A n 3 (ts.map Timer.cells)) :
    Calls Try.prog 22 #[.slice A n c, .int .i64 now] w fun e w' => (∃ A c B d, e = .returned (.tuple #[.slice A (runR ts now).1.length c, .slice B (runR ts now).2.1.length d, .bool (runR ts now).2.2]) ∧ Duo w' w.heap.size A c (runR ts now).1 B d (runR ts now).2.1) ∧ Bw w w' := by
  have hl := Lib.hid h.tlen
  cases hb : dueB ts now
  · have HR := Lib.hid (run_no hb)
    have Hcl := fun (w1 : World) (hb1 : Bw (w.alloc (.cells #[] 3)) w1) => (show Duo (w1.alloc (.cells #[] 26)) w.heap.size (some ⟨w1.heap.size, 0, none⟩) 0 [] (some ⟨w.heap.size, 0, none⟩) 0 [] from
      ⟨Row.empty w1 _ _ _ _ (by have := hb1.size; simp at this; omega), (((Row.empty (T := Int) w w.heap.size 3 1 icell (Nat.le_refl _)).keep hb1).keep (Bw.alloc (Bw.refl _) _)), fun x y hx hy he => by have := hb1.size; simp at hx hy this; subst hx; subst hy; simp at he; omega⟩)
    cases hg : goodT ts
    · clear hb
      go_enter Try.func22, Try.ntmps22
      go_wp2_with (go_at_call 41; refine (c_l8Good _ _ _ ts hg _ hn (h.keep (by (repeat (first | with_reducible assumption | exact Bw.refl _ | (with_reducible refine Bw.setCell ?_ (by simp) _) | (with_reducible refine Bw.alloc ?_ _) | (with_reducible refine Bw.drew ?_) | (with_reducible refine Bw.drewN ?_ _)))))).mono ?_; rintro e w1 ⟨rfl, hb1⟩)
      go_ret3
      rw [HR.out]
      exact ⟨⟨_, _, _, _, rfl, Hcl _ hb1⟩, Bw.alloc (Bw.trans (by (repeat (first | with_reducible assumption | exact Bw.refl _ | (with_reducible refine Bw.setCell ?_ (by simp) _) | (with_reducible refine Bw.alloc ?_ _) | (with_reducible refine Bw.drew ?_) | (with_reducible refine Bw.drewN ?_ _)))) hb1) _⟩
    · have ht : inR now 0 10000 = false := by simpa [dueB, hg] using hb
      clear hb
      go_enter Try.func22, Try.ntmps22
      go_wp2_with (first | (go_at_call 41; refine (c_l8Good _ _ _ ts hg _ hn (h.keep (by (repeat (first | with_reducible assumption | exact Bw.refl _ | (with_reducible refine Bw.setCell ?_ (by simp) _) | (with_reducible refine Bw.alloc ?_ _) | (with_reducible refine Bw.drew ?_) | (with_reducible refine Bw.drewN ?_ _)))))).mono ?_; rintro e w1 ⟨rfl, hb1⟩) | (go_at_call 55; refine (c_l8Tick _ ht _).mono ?_; rintro e w1 ⟨rfl, rfl⟩))
      go_ret3
      rw [HR.out]
      exact ⟨⟨_, _, _, _, rfl, Hcl _ hb1⟩, Bw.alloc (Bw.trans (by (repeat (first | with_reducible assumption | exact Bw.refl _ | (with_reducible refine Bw.setCell ?_ (by simp) _) | (with_reducible refine Bw.alloc ?_ _) | (with_reducible refine Bw.drew ?_) | (with_reducible refine Bw.drewN ?_ _)))) hb1) _⟩
  · simp only [dueB, Bool.and_eq_true] at hb
    obtain ⟨hg, ht⟩ := hb
    have hn10 : n ≤ 10 := by have := (goodT_iff.1 hg).2; rw [hl.out] at this; omega
    have Hg := Lib.hid hg
    have HS0 := Lib.hid (RunSt.start hg ht)
    obtain ⟨i0, hi, hz0, hz1, hz2⟩ := info_parts infoTimer
    have Hi := Lib.hid hi
    have Hz0 := Lib.hid hz0
    have Hz1 := Lib.hid hz1
    have Hz2 := Lib.hid hz2
    clear hi hz0 hz1 hz2 hg
    go_enter Try.func22, Try.ntmps22
    go_wp2_with (first | (go_at_call 41; refine (c_l8Good _ _ _ ts Hg.out _ hn (h.keep (by (repeat (first | with_reducible assumption | exact Bw.refl _ | (with_reducible refine Bw.setCell ?_ (by simp) _) | (with_reducible refine Bw.alloc ?_ _) | (with_reducible refine Bw.drew ?_) | (with_reducible refine Bw.drewN ?_ _)))))).mono ?_; rintro e w1 ⟨rfl, hb1⟩) | (go_at_call 55; refine (c_l8Tick _ ht _).mono ?_; rintro e w1 ⟨rfl, rfl⟩) | (at_builtin; refine wpList_append_rd (enc := Timer.cells) rfl _ _ 24 rfl w1.heap.size 26 i0 _ 3 24 Try.underlying24 Hi.out Hz0.out Hz1.out Hz2.out rfl (by decide) (fun _ => rfl) oneTimer _ _ _ _ rfl (Row.empty w1 w1.heap.size _ _ _ (Nat.le_refl _)) _ n _ ts rfl (h.keep (Bw.trans (Bw.trans (Bw.alloc (Bw.refl _) _) hb1) (Bw.alloc (Bw.refl _) _))) ?_ ?_ ?_ ?_; (unfold maxLen; omega); omega; simp; intro A2 c2 w2 hrow2 hg2 hmv2 hnn2))
    have hs1 : w.heap.size < w1.heap.size := by have := hb1.size; simp at this; omega
    have hb2 : Bw w w2 := Bw.ofRow (Bw.trans (Bw.trans (Bw.alloc (Bw.refl _) _) hb1) (Bw.alloc (Bw.refl _) _)) hg2 (fun x hx => by simp at hx; subst hx; simp; omega)
    have hout := ((Row.empty (T := Int) w w.heap.size 3 1 icell (Nat.le_refl _)).keep (hb1.trans (Bw.alloc (Bw.refl _) _))).grown hg2 (fun x hx => by simp at hx; subst hx; simp [Value.ownBlock]; omega)
    have hap : Apart A2 (some ⟨w.heap.size, 0, none⟩) := fun x y hx hy he => by
      have := (hrow2.lt x hx).1
      simp at hy; subst hy; simp at he; omega
    rw [Nat.zero_add, List.nil_append] at hrow2
    go_loopw [7, 8] (fun v7 v8 wr => ∃ (os : List Int) (rs : List Timer) (A : Option Addr) (c : Nat) (B : Option Addr) (d : Nat), v7 = .slice B os.length d ∧ v8 = .slice A rs.length c ∧ Duo wr w.heap.size A c rs B d os ∧ RunSt ts now os rs ∧ Bw w wr) (fun v7 _ _ => 50 - lenV v7)
    case atStart => exact ⟨[], ts, _, _, _, _, rfl, by rw [hl.out], ⟨by rw [hl.out]; exact hrow2.mono (by omega), hout, hap⟩, HS0.out, hb2⟩
    case round =>
      obtain ⟨os, rs, A', c', B', d', rfl, rfl, duo, hst, hbl⟩ := hrel
      have hle := hst.le
      have hr10 : rs.length ≤ 10 := (goodT_iff.1 hst.good).2
      by_cases h0 : 0 < rs.length
      · have HA := Lib.hid (goodT_asc hst.good)
        have HF := Lib.hid hst.full
        have HT := Lib.hid hst.step
        have HP := Lib.hid hst.stop
        have HG := Lib.hid hst.good
        have HX := Lib.hid (fun p (hp : p < rs.length) (h : tAt rs p = tAt (sortD rs) 0) => first_at HA.out hp h)
        generalize hf : tAt (sortD rs) 0 = f at *
        have HE := Lib.hid hf
        clear hst hf
        have hrd := duo.a.rd (fun _ => rfl)
        obtain ⟨b, off, rfl, hb, hc⟩ := hrd.timer h0
        have h0' : (0 : Int) < (rs.length : Int) := by omega
        by_cases hd : f.due ≤ now
        · go_wp2_with fail
          refine (c_l8First _ _ _ rs _ (by omega) h0 HA.out hrd).mono ?_
          rintro e w3 ⟨⟨p, rfl, hp, hpt⟩, hb3⟩
          have ⟨q0, q1, q2⟩ := hc p hp
          rw [hpt, HE.out] at q0 q1 q2
          have r0 := hb3.cellv q0
          have r1 := hb3.cellv q1
          clear q0 q1 q2 hpt
          by_cases h5 : os.length = 50
          · have HD := Lib.hid (HF.out h0 hd h5)
            have d5 : ((os.length : Int) == 50) = true := by simp; omega
            clear h5
            go_wp2_with fail
            go_ret3
            rw [HD.out]
            have hs3 := (hbl.trans hb3).size
            exact ⟨⟨_, _, _, _, rfl, ⟨(Row.empty w3 _ _ _ _ hs3).keep (Bw.alloc (Bw.refl _) _), Row.emptyK (by simp; omega) (by simp) (Bw.refl _), fun x y hx hy he => by simp at hx hy; subst hx; subst hy; simp at he⟩⟩, Bw.alloc (Bw.alloc (hbl.trans hb3) _) _⟩
          · have d5 : ((os.length : Int) == 50) = false := by simp; omega
            have HD := Lib.hid (HT.out h0 hd (by omega))
            have h5' : os.length < 50 := by omega
            clear h5
            go_wp2_with fail
            refine (c_l8First _ _ _ rs _ (by omega) h0 HA.out (hrd.keep hb3)).mono ?_
            rintro e w4 ⟨⟨p', rfl, hp', hpt'⟩, hb4⟩
            have ⟨q0, q1, q2⟩ := hc p' hp'
            have HX2 := Lib.hid (HX.out p' hp' (hpt'.trans HE.out))
            rw [hpt', HE.out] at q0 q1 q2
            have s0 := hb4.cellv (hb3.cellv q0)
            have hb34 := hb3.trans hb4
            have duo4 := duo.keep hb34
            have hrow4 := duo4.b
            have hbl4 := hbl.trans hb34
            clear q0 q1 q2 hpt' hc r0 r1
            go_wp2_with (at_builtin; refine append_int rfl _ _ rfl _ _ _ _ rfl hrow4 _ _ rfl rfl ?_ ?_ ?_; omega; exact hbl4.size; intro A5 c5 w5 hrow5 hg5 hmv5)
            have duo5 := duo4.push hrow5 hg5 hmv5
            have hb5 := Bw.ofRow hbl4 hg5 (fun x hx => (hrow4.lt x hx).1)
            refine (c_l8Fire _ _ _ rs p' HG.out hp' _ (duo5.a.rd (fun _ => rfl))).mono ?_
            rintro e w6 ⟨⟨A6, c6, rfl, row6⟩, hb6⟩
            go_wp2_with fail
            go_roundw
            case rel => exact ⟨os ++ [f.id], fireT rs p', A6, c6, A5, c5, by simp, rfl, ⟨row6.mono hb5.size, duo5.b.keep hb6, (hrow5.later row6 (Nat.le_refl _)).symm⟩, by have := HD.out; rwa [HX2.out] at this, hb5.trans hb6⟩
            case measure => simp [lenV]; omega
        · have HD := Lib.hid (HP.out (fun hh => hd hh.2))
          go_wp2_with fail
          refine (c_l8First _ _ _ rs _ (by omega) h0 HA.out hrd).mono ?_
          rintro e w3 ⟨⟨p, rfl, hp, hpt⟩, hb3⟩
          have ⟨q0, q1, q2⟩ := hc p hp
          rw [hpt, HE.out] at q0 q1 q2
          have r1 := hb3.cellv q1
          clear q0 q1 q2 hpt hc
          go_wp2_with fail
          go_ret3
          rw [HD.out]
          exact ⟨⟨_, _, _, _, rfl, duo.keep hb3⟩, hbl.trans hb3⟩
      · have HD := Lib.hid (hst.stop (fun hh => h0 hh.1))
        obtain rfl : rs = [] := List.eq_nil_of_length_eq_zero (by omega)
        clear hst
        go_wp2_with fail
        go_ret3
        rw [HD.out]
        exact ⟨⟨_, _, _, _, rfl, duo⟩, hbl⟩
set_option maxRecDepth 100000 in
set_option maxHeartbeats 1000000 in
theorem c_iRunTimers (A : Option Addr) (n c : Nat) (ts : List Timer) (now : Int) (w : World) (hn : n ≤ 9223372036854775807) (h : Rd w A n 3 (ts.map Timer.cells)) :
    Calls Try.prog 21 #[.slice A n c, .int .i64 now] w fun e w' => (∃ A c B d, e = .returned (.tuple #[.slice A (runR ts now).1.length c, .slice B (runR ts now).2.1.length d, .bool (runR ts now).2.2]) ∧ Duo w' w.heap.size A c (runR ts now).1 B d (runR ts now).2.1) ∧ Bw w w' := by
  have hl := Lib.hid h.tlen
  cases hb : dueB ts now
  · have HR := Lib.hid (run_no hb)
    cases hg : goodT ts
    · clear hb
      go_enter Try.func21, Try.ntmps21
      go_wp2_with (go_at_call 11; refine (c_IsValidTimers _ _ _ ts hg _ hn h).mono ?_; rintro e w1 ⟨rfl, hb1⟩)
      go_ret3
      rw [HR.out]
      exact ⟨⟨_, _, _, _, rfl, Duo.nils _ _⟩, hb1⟩
    · have ht : inR now 0 10000 = false := by simpa [dueB, hg] using hb
      clear hb
      go_enter Try.func21, Try.ntmps21
      go_wp2_with (first | (go_at_call 11; refine (c_IsValidTimers _ _ _ ts hg _ hn h).mono ?_; rintro e w1 ⟨rfl, hb1⟩) | (go_at_call 44; refine (c_isTick _ ht _).mono ?_; rintro e w1 ⟨rfl, rfl⟩))
      go_ret3
      rw [HR.out]
      exact ⟨⟨_, _, _, _, rfl, Duo.nils _ _⟩, hb1⟩
  · simp only [dueB, Bool.and_eq_true] at hb
    obtain ⟨hg, ht⟩ := hb
    have hn10 : n ≤ 10 := by have := (goodT_iff.1 hg).2; rw [hl.out] at this; omega
    have Hg := Lib.hid hg
    have HS0 := Lib.hid (RunSt.start hg ht)
    clear hg
    go_enter Try.func21, Try.ntmps21
    go_wp2_with (first | (go_at_call 11; refine (c_IsValidTimers _ _ _ ts Hg.out _ hn h).mono ?_; rintro e w1 ⟨rfl, hb1⟩) | (go_at_call 44; refine (c_isTick _ ht _).mono ?_; rintro e w1 ⟨rfl, rfl⟩))
    refine (c_CloneTimer _ _ _ ts _ (by omega) (h.keep hb1)).mono ?_
    rintro e w2 ⟨⟨Aq, cq, rfl, row2⟩, hb2⟩
    have hb12 := hb1.trans hb2
    go_wp2_with fail
    go_loopw [7, 8] (fun v7 v8 wr => ∃ (os : List Int) (rs : List Timer) (A : Option Addr) (c : Nat) (B : Option Addr) (d : Nat), v7 = .slice A rs.length c ∧ v8 = .slice B os.length d ∧ Duo wr w.heap.size A c rs B d os ∧ RunSt ts now os rs ∧ Bw w wr) (fun _ v8 _ => 50 - lenV v8)
    case atStart => exact ⟨[], ts, _, _, _, _, by rw [hl.out], rfl, ⟨by rw [hl.out]; exact row2.mono hb1.size, Row.nil _ _ _ _ _, Apart.noneR⟩, HS0.out, hb12⟩
    case round =>
      obtain ⟨os, rs, A', c', B', d', rfl, rfl, duo, hst, hbl⟩ := hrel
      have hle := hst.le
      have hr10 : rs.length ≤ 10 := (goodT_iff.1 hst.good).2
      by_cases h0 : 0 < rs.length
      · have HA := Lib.hid (goodT_asc hst.good)
        have HF := Lib.hid hst.full
        have HT := Lib.hid hst.step
        have HP := Lib.hid hst.stop
        have HG := Lib.hid hst.good
        have HQ := Lib.hid (pos_first hst.good h0)
        have HM := Lib.hid (first_mem HA.out h0)
        have HL := Lib.hid (sortD_len HA.out)
        generalize hf : tAt (sortD rs) 0 = f at *
        have HE := Lib.hid hf
        clear hst hf
        have hrd := duo.a.rd (fun _ => rfl)
        have h0' : (0 : Int) < (rs.length : Int) := by omega
        go_wp2_with fail
        refine (c_byDue _ _ _ rs _ (by omega) HA.out hrd).mono ?_
        rintro e w3 ⟨⟨A3, c3, rfl, row3⟩, hb3⟩
        obtain ⟨g, rfl, hlo, hgl, hfz, hcc⟩ := row3.timer h0
        have ⟨q0, q1, q2⟩ := hcc 0 h0
        rw [HE.out, Nat.zero_mul] at q0 q1 q2
        clear hcc
        have hbl3 := hbl.trans hb3
        by_cases hd : f.due ≤ now
        · by_cases h5 : os.length = 50
          · have HD := Lib.hid (HF.out h0 hd h5)
            have d5 : ((os.length : Int) == 50) = true := by simp; omega
            clear h5
            go_wp2_with fail
            go_ret3
            rw [HD.out]
            exact ⟨⟨_, _, _, _, rfl, Duo.nils _ _⟩, Bw.alloc hbl3 _⟩
          · have d5 : ((os.length : Int) == 50) = false := by simp; omega
            have HD := Lib.hid (HT.out h0 hd (by omega))
            have h5' : os.length < 50 := by omega
            clear h5
            have duo4 := (duo.keep hb3).keep (Bw.alloc (Bw.refl w3) (.cells #[.int .i64 f.id, .int .i64 f.due, .int .i64 f.per] 26))
            have hrow4 := duo4.b
            have hbl4 := Bw.alloc hbl3 (.cells #[.int .i64 f.id, .int .i64 f.due, .int .i64 f.per] 26)
            have nown := Row.notOwn (duo.keep hb3).b (m := os.length) (d := d') (Nat.le_refl _)
            go_wp2_with (at_builtin; refine append_int rfl _ _ rfl _ _ _ _ rfl hrow4 _ _ rfl ?_ ?_ ?_ ?_; simp; omega; exact hbl4.size; intro A5 c5 w5 hrow5 hg5 hmv5; have k0 := (hg5.cell_far ⟨w3.heap.size, 0, none⟩ (by simp) nown).trans (show _ = some (.int .i64 f.id) by go_simp))
            have duo5 := duo4.push hrow5 hg5 hmv5
            have hb5 := Bw.ofRow hbl4 hg5 (fun x hx => (hrow4.lt x hx).1)
            refine (c_findTimer _ _ _ rs f.id HG.out HQ.out.1 HQ.out.2 _ (duo5.a.rd (fun _ => rfl))).mono ?_
            rintro e w6 ⟨rfl, hb6⟩
            have hrow6 := duo5.a.keep hb6
            go_wp2_with fail
            refine (c_fire _ _ _ rs (firstI rs) _ HG.out HM.out.1 _ hrow6).mono ?_
            rintro e w7 ⟨rfl, row7, hg7⟩
            go_wp2_with fail
            go_roundw
            case rel => exact ⟨os ++ [f.id], fireT rs (firstI rs), A', c', A5, c5, rfl, by simp, ⟨row7, (duo5.b.keep hb6).apart hg7 duo5.ab, duo5.ab⟩, HD.out, Bw.ofRow (hb5.trans hb6) hg7 (fun x hx => (hrow6.lt x hx).1)⟩
            case measure => simp [lenV]; omega
        · have HD := Lib.hid (HP.out (fun hh => hd hh.2))
          go_wp2_with fail
          go_ret3
          rw [HD.out]
          exact ⟨⟨_, _, _, _, rfl, (duo.keep hb3).keep (Bw.alloc (Bw.refl _) _)⟩, Bw.alloc hbl3 _⟩
      · have HD := Lib.hid (hst.stop (fun hh => h0 hh.1))
        obtain rfl : rs = [] := List.eq_nil_of_length_eq_zero (by omega)
        clear hst
        go_wp2_with fail
        go_ret3
        rw [HD.out]
        exact ⟨⟨_, _, _, _, rfl, duo⟩, hbl⟩
end Go.Proofs.Ytjejfkndiecmaaa
