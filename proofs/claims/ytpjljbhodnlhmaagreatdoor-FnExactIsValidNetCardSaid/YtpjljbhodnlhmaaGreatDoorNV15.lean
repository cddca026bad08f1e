
/- What stands at a node: the reference's test, a bad part. -/
import Derived.Test.YtpjljbhodnlhmaaGreatDoorNV14
import Derived.Test.YtpjljbhodnlhmaaGreatDoorU3
namespace Go.Proofs.YtpjljbhodnlhmaaGreatDoor
open Go.RowKit
theorem quB_len {up : Bool} {ps : List Pk} (h : quB up ps = true) : ps.length ≤ 6 := by
  simp only [quB, Bool.and_eq_true, decide_eq_true_eq] at h
  exact h.2
theorem c_l15LeafK (A : Option Addr) (n c : Nat) (ps : List Int) (k : Nat) (hg : goodP ps = true) (hk : k ≠ 0) {r : Bool} (hr : hasI ps (k : Int) = r) (w : World) (h : Rd w A n 1 (ps.map icell)) :
    Calls Tryz.prog 119 #[.agg #[.slice A n c], .int .i64 (k : Int)] w fun e w' => e = .returned (.bool (!r)) ∧ Bw w w' := by
  have e : (decide (0 < k) && !hasI ps (k : Int)) = !r := by rw [hr]; simp; omega
  have := c_l15Leaf A n c ps k hg w h
  rwa [e] at this
set_option maxRecDepth 100000 in
set_option maxHeartbeats 4000000 in
theorem c_l15AtD (N : NetM) (k : Nat) (w : World) (h : RdN w N) (hgood : goodP N.ps = true) (hok : (elB (elAt N.els k).ck (elAt N.els k).es && (reB (reAt N.res k) && (quB false (quAt N.dqs k).ps && quB true (quAt N.uqs k).ps))) = false) (he : k < N.en) (hr : k < N.rn) (hd : k < N.dn) (hu : k < N.un) {r : Bool} (hv : nodeS k (!hasI N.ps k) N.ck (elAt N.els k) (reAt N.res k) (quAt N.dqs k).ps (quAt N.uqs k).ps = r) :
    Calls Tryz.prog 78 #[N.val, .int .i64 (k : Int)] w fun e w' => e = .returned (.bool r) ∧ Bw w w' := by
  subst hv
  have big := h.big
  have tr := h.tr
  obtain ⟨b, off, hA, hb, hc⟩ := h.el.els (by omega)
  have ⟨e0, e1⟩ := hc k he
  clear hc
  obtain ⟨b', off', hA', hb', hc'⟩ := h.re.res (by omega)
  have ⟨r0, r1, r2, r3, r4⟩ := hc' k hr
  clear hc'
  obtain ⟨bd, od, hAd, hbd, hcd⟩ := h.dq.qus (by omega)
  have d := hcd k hd
  clear hcd
  obtain ⟨bu, ou, hAu, hbu, hcu⟩ := h.uq.qus (by omega)
  have u := hcu k hu
  clear hcu
  have elo := Lib.hid (h.eo' k he)
  have rco := Lib.hid (h.ro' k hr)
  have dqo := Lib.hid (h.do' k hd)
  have uqo := Lib.hid (h.uo' k hu)
  generalize elAt N.els k = el at *
  generalize reAt N.res k = rc at *
  generalize quAt N.dqs k = dq at *
  generalize quAt N.uqs k = uq at *
  have E0 := Lib.hid e0
  have E1 := Lib.hid e1
  have R0 := Lib.hid r0
  have R1 := Lib.hid r1
  have R2 := Lib.hid r2
  have R3 := Lib.hid r3
  have R4 := Lib.hid r4
  have D := Lib.hid d
  have U := Lib.hid u
  clear d u
  have l1 := elo.out.2.2.len
  have l2 := rco.out.2.2.2.1.slotlen
  have l3 := rco.out.2.2.2.2.2.2.len
  have l4 := dqo.out.2.2.2.pklen
  have l5 := uqo.out.2.2.2.pklen
  simp only [List.length_map] at l3
  have m1 := elo.out.2.1
  have m2 := rco.out.2.1
  have m3 := rco.out.2.2.2.2.2.1
  have m4 := dqo.out.2.1
  have m5 := uqo.out.2.1
  unfold maxLen at m1 m2 m3 m4 m5
  have n1 := elo.out.1
  have n2 := rco.out.1
  have n3 := rco.out.2.2.2.2.1
  have n4 := dqo.out.1
  have n5 := uqo.out.1
  have dqn : dq.n ≤ 9223372036854775807 := by omega
  have uqn : uq.n ≤ 9223372036854775807 := by omega
  have dqf := Lib.hid (show fitP dq.ps from dqo.out.2.2.1)
  have uqf := Lib.hid (show fitP uq.ps from uqo.out.2.2.1)
  have dqr := Lib.hid (show Rd w dq.A dq.n 5 (dq.ps.map Pk.cells) from dqo.out.2.2.2)
  have uqr := Lib.hid (show Rd w uq.A uq.n 5 (uq.ps.map Pk.cells) from uqo.out.2.2.2)
  have z4 : decide (dq.ps.length + uq.ps.length = 0) = (((dq.n : Int) + (uq.n : Int)) == 0) := by rw [l4, l5, Bool.eq_iff_iff]; simp; omega
  have z5 : zeE el.ck el.n = ((el.ck == 0) && ((el.n : Int) == 0)) := by rw [zeE]; congr 1; rw [Bool.eq_iff_iff]; simp
  have zk : (if k = 0 then (zeE el.ck el.n && ((!rc.st && rc.ck == 0) && (((dq.n : Int) + (uq.n : Int)) == 0))) else (if (!hasI N.ps k) = true then (zeE el.ck el.n && rc.ck == N.ck) else ((!rc.st && rc.ck == 0) && el.ck == N.ck))) = cond ((k : Int) == 0) (zeE el.ck el.n && ((!rc.st && rc.ck == 0) && (((dq.n : Int) + (uq.n : Int)) == 0))) (cond (hasI N.ps k) ((!rc.st && rc.ck == 0) && el.ck == N.ck) (zeE el.ck el.n && rc.ck == N.ck)) := by
    by_cases hk : k = 0
    · have : ((k : Int) == 0) = true := by simp [hk]
      rw [if_pos hk, this]; rfl
    · have : ((k : Int) == 0) = false := by simp [hk]
      rw [if_neg hk, this]
      cases hasI N.ps k <;> rfl
  have HW := Lib.hid (show nodeS k (!hasI N.ps k) N.ck el rc dq.ps uq.ps = (elB el.ck el.es && (reB rc && (quB false dq.ps && (quB true uq.ps && _)))) by rw [nodeS, l1, z4, zk, z5])
  have hq1 := Lib.hid (fun h : quB false dq.ps = true => (show dq.n ≤ 6 by have := quB_len h; omega))
  have hq2 := Lib.hid (fun h : quB true uq.ps = true => (show uq.n ≤ 6 by have := quB_len h; omega))
  clear z4 z5 zk l1 l2 l3 l4 l5
  rw [HW.out]
  clear HW
  have HV0 := Lib.hid (show reB rc = rcB rc.st rc.ck rc.t rc.ts rc.rs from rfl)
  rw [HV0.out]
  clear HV0
  generalize hst : rc.st = st
  generalize hqa : quB false dq.ps = qa at hq1 hok ⊢
  generalize hqb : quB true uq.ps = qb at hq2 hok ⊢
  rw [show reB rc = rcB st rc.ck rc.t rc.ts rc.rs by rw [← hst]; rfl] at hok
  generalize hre : rcB st rc.ck rc.t rc.ts rc.rs = re at hok ⊢
  generalize hel : elB el.ck el.es = ev at hok ⊢
  generalize hhi : hasI N.ps k = hi
  generalize hk0 : ((k : Int) == 0) = kz
  generalize hd0 : (((dq.n : Int) + (uq.n : Int)) == 0) = dz
  generalize hx1 : (el.ck == 0) = x1
  generalize hx2 : ((el.n : Int) == 0) = x2
  generalize hrz : (rc.ck == 0) = rz
  generalize hmr : (rc.ck == N.ck) = mr
  generalize hme : (el.ck == N.ck) = me
  have HA := Lib.hid hqa
  have HB := Lib.hid hqb
  have HV := Lib.hid hre
  have HE := Lib.hid hel
  have HI := Lib.hid hhi
  have hg := Lib.hid hgood
  have p6 : (0 : Int) < (N.dn : Int) := by omega
  have p7 : (0 : Int) < (N.un : Int) := by omega
  clear hqa hqb hre hel hhi hgood
  have e01 := fun o => ((Bw.refl w).alloc o).cellv e0
  have e02 := fun o o' => (((Bw.refl w).alloc o).alloc o').cellv e0
  have e03 := fun o o' o'' => ((((Bw.refl w).alloc o).alloc o').alloc o'').cellv e0
  have e11 := fun o => ((Bw.refl w).alloc o).cellv e1
  have e12 := fun o o' => (((Bw.refl w).alloc o).alloc o').cellv e1
  have e13 := fun o o' o'' => ((((Bw.refl w).alloc o).alloc o').alloc o'').cellv e1
  have r01 := fun o => ((Bw.refl w).alloc o).cellv r0
  have r02 := fun o o' => (((Bw.refl w).alloc o).alloc o').cellv r0
  have r03 := fun o o' o'' => ((((Bw.refl w).alloc o).alloc o').alloc o'').cellv r0
  have r11 := fun o => ((Bw.refl w).alloc o).cellv r1
  have r12 := fun o o' => (((Bw.refl w).alloc o).alloc o').cellv r1
  have r13 := fun o o' o'' => ((((Bw.refl w).alloc o).alloc o').alloc o'').cellv r1
  have r21 := fun o => ((Bw.refl w).alloc o).cellv r2
  have r22 := fun o o' => (((Bw.refl w).alloc o).alloc o').cellv r2
  have r23 := fun o o' o'' => ((((Bw.refl w).alloc o).alloc o').alloc o'').cellv r2
  have r31 := fun o => ((Bw.refl w).alloc o).cellv r3
  have r32 := fun o o' => (((Bw.refl w).alloc o).alloc o').cellv r3
  have r33 := fun o o' o'' => ((((Bw.refl w).alloc o).alloc o').alloc o'').cellv r3
  have r41 := fun o => ((Bw.refl w).alloc o).cellv r4
  have r42 := fun o o' => (((Bw.refl w).alloc o).alloc o').cellv r4
  have r43 := fun o o' o'' => ((((Bw.refl w).alloc o).alloc o').alloc o'').cellv r4
  have p4 : 0 < N.dn := by omega
  have p5 : 0 < N.un := by omega
  generalize hv : N.val = V
  rw [NetM.val, hA, hA', hAd, hAu] at hv
  subst hv
  go_enter Tryz.func78, Tryz.ntmps78
  go_wp2_with fail
  go_region
  all_goals
    clear e01 e02 e03 e11 e12 e13 r01 r02 r03 r11 r12 r13 r21 r22 r23 r31 r32 r33 r41 r42 r43 e0 e1 r0 r1 r2 r3 r4
    refine world_gen (R := fun X => Exit.then _ _ _ _ X) ?_
    intro X hX
    have kk : Bw w X := by subst hX; ((repeat (first | with_reducible assumption | exact Bw.refl _ | (with_reducible refine Bw.setCell ?_ (by dsimp only; omega) _) | (with_reducible refine Bw.alloc ?_ _) | (with_reducible refine Bw.drew ?_) | (with_reducible refine Bw.drewN ?_ _))))
    (first | (refine RX.use (W := X) (nb := w.heap.size) (eb := w.heap.size + 1) (rb := w.heap.size + 1 + 1) (k := k) (N := N) (bd := bd) (od := od) (bu := bu) (ou := ou) (el := el) (rc := rc) (dq := dq) (uq := uq) ?_ ?_; (focus (refine ⟨?_, ?_, ?_, ?_, kk.cellv D.out, kk.cellv U.out, ?_, ?_, ?_, ?_, ?_, ?_, ?_⟩ <;> (subst hX; go_simp; done)))) | (refine RX.use (W := X) (nb := w.heap.size) (eb := w.heap.size + 1 + 1) (rb := w.heap.size + 1) (k := k) (N := N) (bd := bd) (od := od) (bu := bu) (ou := ou) (el := el) (rc := rc) (dq := dq) (uq := uq) ?_ ?_; (focus (refine ⟨?_, ?_, ?_, ?_, kk.cellv D.out, kk.cellv U.out, ?_, ?_, ?_, ?_, ?_, ?_, ?_⟩ <;> (subst hX; go_simp; done)))))
    intro PX
    clear hX D U E0 E1 R0 R1 R2 R3 R4
    (have ⟨n0, n4, n9, n10, d, u, e0, e1, r0, r1, r2, r3, r4⟩ := PX)
    rw [hst] at r0
    cases ev
    · (go_wp2_with ((first | (go_at_call 118; (with_reducible refine (c_l15Queue false dq.A dq.n dq.c dq.ps dqf.out HA.out _ dqn (dqr.out.keep kk)).mono ?_); (rintro e w1 ⟨rfl, hb1⟩; replace kk := kk.trans hb1; replace PX := PX.keep hb1; (have ⟨n0, n4, n9, n10, d, u, e0, e1, r0, r1, r2, r3, r4⟩ := PX); rw [hst] at r0; (try (have d' := d; rw [hkz, Nat.add_zero] at d')); (try (have u' := u; rw [hkz, Nat.add_zero] at u')))) | (go_at_call 119; refine (c_l15LeafK N.B N.n N.d N.ps k hg.out hkz HI.out _ (tr.keep kk)).mono ?_; (rintro e w1 ⟨rfl, hb1⟩; replace kk := kk.trans hb1; replace PX := PX.keep hb1; (have ⟨n0, n4, n9, n10, d, u, e0, e1, r0, r1, r2, r3, r4⟩ := PX); rw [hst] at r0; (try (have d' := d; rw [hkz, Nat.add_zero] at d')); (try (have u' := u; rw [hkz, Nat.add_zero] at u')))) | (go_at_call 117; refine (c_l13Good _ rc.ck rc.t rc.A rc.n rc.c rc.ts rco.out.2.2.1 rc.B rc.m rc.d rc.rs HV.out _ (by omega) (by omega) (rco.out.2.2.2.1.keep kk) (rco.out.2.2.2.2.2.2.keep kk)).mono ?_; (rintro e w1 ⟨rfl, hb1⟩; replace kk := kk.trans hb1; replace PX := PX.keep hb1; (have ⟨n0, n4, n9, n10, d, u, e0, e1, r0, r1, r2, r3, r4⟩ := PX); rw [hst] at r0; (try (have d' := d; rw [hkz, Nat.add_zero] at d')); (try (have u' := u; rw [hkz, Nat.add_zero] at u')))) | (go_at_call 116; refine (c_l14Good el.ck el.A el.n el.c el.es el.ts HE.out _ (by omega) (elo.out.2.2.keep kk)).mono ?_; (rintro e w1 ⟨rfl, hb1⟩; replace kk := kk.trans hb1; replace PX := PX.keep hb1; (have ⟨n0, n4, n9, n10, d, u, e0, e1, r0, r1, r2, r3, r4⟩ := PX); rw [hst] at r0; (try (have d' := d; rw [hkz, Nat.add_zero] at d')); (try (have u' := u; rw [hkz, Nat.add_zero] at u')))))); go_ret; exact ⟨ret_bool rfl, kk⟩)
    · cases re
      · (go_wp2_with ((first | (go_at_call 118; (with_reducible refine (c_l15Queue false dq.A dq.n dq.c dq.ps dqf.out HA.out _ dqn (dqr.out.keep kk)).mono ?_); (rintro e w1 ⟨rfl, hb1⟩; replace kk := kk.trans hb1; replace PX := PX.keep hb1; (have ⟨n0, n4, n9, n10, d, u, e0, e1, r0, r1, r2, r3, r4⟩ := PX); rw [hst] at r0; (try (have d' := d; rw [hkz, Nat.add_zero] at d')); (try (have u' := u; rw [hkz, Nat.add_zero] at u')))) | (go_at_call 119; refine (c_l15LeafK N.B N.n N.d N.ps k hg.out hkz HI.out _ (tr.keep kk)).mono ?_; (rintro e w1 ⟨rfl, hb1⟩; replace kk := kk.trans hb1; replace PX := PX.keep hb1; (have ⟨n0, n4, n9, n10, d, u, e0, e1, r0, r1, r2, r3, r4⟩ := PX); rw [hst] at r0; (try (have d' := d; rw [hkz, Nat.add_zero] at d')); (try (have u' := u; rw [hkz, Nat.add_zero] at u')))) | (go_at_call 117; refine (c_l13Good _ rc.ck rc.t rc.A rc.n rc.c rc.ts rco.out.2.2.1 rc.B rc.m rc.d rc.rs HV.out _ (by omega) (by omega) (rco.out.2.2.2.1.keep kk) (rco.out.2.2.2.2.2.2.keep kk)).mono ?_; (rintro e w1 ⟨rfl, hb1⟩; replace kk := kk.trans hb1; replace PX := PX.keep hb1; (have ⟨n0, n4, n9, n10, d, u, e0, e1, r0, r1, r2, r3, r4⟩ := PX); rw [hst] at r0; (try (have d' := d; rw [hkz, Nat.add_zero] at d')); (try (have u' := u; rw [hkz, Nat.add_zero] at u')))) | (go_at_call 116; refine (c_l14Good el.ck el.A el.n el.c el.es el.ts HE.out _ (by omega) (elo.out.2.2.keep kk)).mono ?_; (rintro e w1 ⟨rfl, hb1⟩; replace kk := kk.trans hb1; replace PX := PX.keep hb1; (have ⟨n0, n4, n9, n10, d, u, e0, e1, r0, r1, r2, r3, r4⟩ := PX); rw [hst] at r0; (try (have d' := d; rw [hkz, Nat.add_zero] at d')); (try (have u' := u; rw [hkz, Nat.add_zero] at u')))))); go_ret; exact ⟨ret_bool rfl, kk⟩)
      · cases qa
        · (go_wp2_with ((first | (go_at_call 118; (with_reducible refine (c_l15Queue false dq.A dq.n dq.c dq.ps dqf.out HA.out _ dqn (dqr.out.keep kk)).mono ?_); (rintro e w1 ⟨rfl, hb1⟩; replace kk := kk.trans hb1; replace PX := PX.keep hb1; (have ⟨n0, n4, n9, n10, d, u, e0, e1, r0, r1, r2, r3, r4⟩ := PX); rw [hst] at r0; (try (have d' := d; rw [hkz, Nat.add_zero] at d')); (try (have u' := u; rw [hkz, Nat.add_zero] at u')))) | (go_at_call 119; refine (c_l15LeafK N.B N.n N.d N.ps k hg.out hkz HI.out _ (tr.keep kk)).mono ?_; (rintro e w1 ⟨rfl, hb1⟩; replace kk := kk.trans hb1; replace PX := PX.keep hb1; (have ⟨n0, n4, n9, n10, d, u, e0, e1, r0, r1, r2, r3, r4⟩ := PX); rw [hst] at r0; (try (have d' := d; rw [hkz, Nat.add_zero] at d')); (try (have u' := u; rw [hkz, Nat.add_zero] at u')))) | (go_at_call 117; refine (c_l13Good _ rc.ck rc.t rc.A rc.n rc.c rc.ts rco.out.2.2.1 rc.B rc.m rc.d rc.rs HV.out _ (by omega) (by omega) (rco.out.2.2.2.1.keep kk) (rco.out.2.2.2.2.2.2.keep kk)).mono ?_; (rintro e w1 ⟨rfl, hb1⟩; replace kk := kk.trans hb1; replace PX := PX.keep hb1; (have ⟨n0, n4, n9, n10, d, u, e0, e1, r0, r1, r2, r3, r4⟩ := PX); rw [hst] at r0; (try (have d' := d; rw [hkz, Nat.add_zero] at d')); (try (have u' := u; rw [hkz, Nat.add_zero] at u')))) | (go_at_call 116; refine (c_l14Good el.ck el.A el.n el.c el.es el.ts HE.out _ (by omega) (elo.out.2.2.keep kk)).mono ?_; (rintro e w1 ⟨rfl, hb1⟩; replace kk := kk.trans hb1; replace PX := PX.keep hb1; (have ⟨n0, n4, n9, n10, d, u, e0, e1, r0, r1, r2, r3, r4⟩ := PX); rw [hst] at r0; (try (have d' := d; rw [hkz, Nat.add_zero] at d')); (try (have u' := u; rw [hkz, Nat.add_zero] at u')))))); go_ret; exact ⟨ret_bool rfl, kk⟩)
        · cases qb
          · go_wp2_with ((first | (go_at_call 118; (with_reducible refine (c_l15Queue false dq.A dq.n dq.c dq.ps dqf.out HA.out _ dqn (dqr.out.keep kk)).mono ?_); (rintro e w1 ⟨rfl, hb1⟩; replace kk := kk.trans hb1; replace PX := PX.keep hb1; (have ⟨n0, n4, n9, n10, d, u, e0, e1, r0, r1, r2, r3, r4⟩ := PX); rw [hst] at r0; (try (have d' := d; rw [hkz, Nat.add_zero] at d')); (try (have u' := u; rw [hkz, Nat.add_zero] at u')))) | (go_at_call 119; refine (c_l15LeafK N.B N.n N.d N.ps k hg.out hkz HI.out _ (tr.keep kk)).mono ?_; (rintro e w1 ⟨rfl, hb1⟩; replace kk := kk.trans hb1; replace PX := PX.keep hb1; (have ⟨n0, n4, n9, n10, d, u, e0, e1, r0, r1, r2, r3, r4⟩ := PX); rw [hst] at r0; (try (have d' := d; rw [hkz, Nat.add_zero] at d')); (try (have u' := u; rw [hkz, Nat.add_zero] at u')))) | (go_at_call 117; refine (c_l13Good _ rc.ck rc.t rc.A rc.n rc.c rc.ts rco.out.2.2.1 rc.B rc.m rc.d rc.rs HV.out _ (by omega) (by omega) (rco.out.2.2.2.1.keep kk) (rco.out.2.2.2.2.2.2.keep kk)).mono ?_; (rintro e w1 ⟨rfl, hb1⟩; replace kk := kk.trans hb1; replace PX := PX.keep hb1; (have ⟨n0, n4, n9, n10, d, u, e0, e1, r0, r1, r2, r3, r4⟩ := PX); rw [hst] at r0; (try (have d' := d; rw [hkz, Nat.add_zero] at d')); (try (have u' := u; rw [hkz, Nat.add_zero] at u')))) | (go_at_call 116; refine (c_l14Good el.ck el.A el.n el.c el.es el.ts HE.out _ (by omega) (elo.out.2.2.keep kk)).mono ?_; (rintro e w1 ⟨rfl, hb1⟩; replace kk := kk.trans hb1; replace PX := PX.keep hb1; (have ⟨n0, n4, n9, n10, d, u, e0, e1, r0, r1, r2, r3, r4⟩ := PX); rw [hst] at r0; (try (have d' := d; rw [hkz, Nat.add_zero] at d')); (try (have u' := u; rw [hkz, Nat.add_zero] at u'))))))
            go_at_call 118
            refine (c_l15Queue true uq.A uq.n uq.c uq.ps uqf.out HB.out _ uqn (uqr.out.keep kk)).mono ?_
            (rintro e w1 ⟨rfl, hb1⟩; replace kk := kk.trans hb1; replace PX := PX.keep hb1; (have ⟨n0, n4, n9, n10, d, u, e0, e1, r0, r1, r2, r3, r4⟩ := PX); rw [hst] at r0; (try (have d' := d; rw [hkz, Nat.add_zero] at d')); (try (have u' := u; rw [hkz, Nat.add_zero] at u')))
            (go_wp2_with ((first | (go_at_call 118; (with_reducible refine (c_l15Queue false dq.A dq.n dq.c dq.ps dqf.out HA.out _ dqn (dqr.out.keep kk)).mono ?_); (rintro e w1 ⟨rfl, hb1⟩; replace kk := kk.trans hb1; replace PX := PX.keep hb1; (have ⟨n0, n4, n9, n10, d, u, e0, e1, r0, r1, r2, r3, r4⟩ := PX); rw [hst] at r0; (try (have d' := d; rw [hkz, Nat.add_zero] at d')); (try (have u' := u; rw [hkz, Nat.add_zero] at u')))) | (go_at_call 119; refine (c_l15LeafK N.B N.n N.d N.ps k hg.out hkz HI.out _ (tr.keep kk)).mono ?_; (rintro e w1 ⟨rfl, hb1⟩; replace kk := kk.trans hb1; replace PX := PX.keep hb1; (have ⟨n0, n4, n9, n10, d, u, e0, e1, r0, r1, r2, r3, r4⟩ := PX); rw [hst] at r0; (try (have d' := d; rw [hkz, Nat.add_zero] at d')); (try (have u' := u; rw [hkz, Nat.add_zero] at u')))) | (go_at_call 117; refine (c_l13Good _ rc.ck rc.t rc.A rc.n rc.c rc.ts rco.out.2.2.1 rc.B rc.m rc.d rc.rs HV.out _ (by omega) (by omega) (rco.out.2.2.2.1.keep kk) (rco.out.2.2.2.2.2.2.keep kk)).mono ?_; (rintro e w1 ⟨rfl, hb1⟩; replace kk := kk.trans hb1; replace PX := PX.keep hb1; (have ⟨n0, n4, n9, n10, d, u, e0, e1, r0, r1, r2, r3, r4⟩ := PX); rw [hst] at r0; (try (have d' := d; rw [hkz, Nat.add_zero] at d')); (try (have u' := u; rw [hkz, Nat.add_zero] at u')))) | (go_at_call 116; refine (c_l14Good el.ck el.A el.n el.c el.es el.ts HE.out _ (by omega) (elo.out.2.2.keep kk)).mono ?_; (rintro e w1 ⟨rfl, hb1⟩; replace kk := kk.trans hb1; replace PX := PX.keep hb1; (have ⟨n0, n4, n9, n10, d, u, e0, e1, r0, r1, r2, r3, r4⟩ := PX); rw [hst] at r0; (try (have d' := d; rw [hkz, Nat.add_zero] at d')); (try (have u' := u; rw [hkz, Nat.add_zero] at u')))))); go_ret; exact ⟨ret_bool rfl, kk⟩)
          · cases hok
end Go.Proofs.YtpjljbhodnlhmaaGreatDoor
