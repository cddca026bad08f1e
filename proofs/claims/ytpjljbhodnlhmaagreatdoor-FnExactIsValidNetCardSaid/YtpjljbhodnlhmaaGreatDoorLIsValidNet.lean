
/- The law FnExactIsValidNet: the walk. -/
import Derived.Test.YtpjljbhodnlhmaaGreatDoorMC
import Derived.Test.YtpjljbhodnlhmaaGreatDoorNV16
import Derived.Deep.RegionHeld3
namespace Go.Proofs.YtpjljbhodnlhmaaGreatDoor
open Go.RowKit
theorem allB_congr {f g : Nat → Bool} {n : Nat} (h : ∀ k, k < n → f k = g k) : allB f n = allB g n := by
  rw [Bool.eq_iff_iff]
  exact ⟨fun x => allB_true (fun j hj => by rw [← h j hj]; exact allB_elim x j hj), fun x => allB_true (fun j hj => by rw [h j hj]; exact allB_elim x j hj)⟩
theorem netB_sim {N M : NetM} (s : N.sim M) : netB M = netB N := by
  unfold netB
  rw [← s.ps, ← s.t, ← s.z, ← s.ss, ← s.ck, ← s.q, ← s.hs, ← s.en, ← s.rn, ← s.dn, ← s.un, ← s.n]
  by_cases h1 : N.en = N.n
  · by_cases h2 : N.rn = N.n
    · by_cases h3 : N.dn = N.n
      · by_cases h4 : N.un = N.n
        · rw [allB_congr (fun k hk => ?_)]
          unfold nodeB
          obtain ⟨e1, e2⟩ := s.es k (by omega)
          obtain ⟨r1, r2, r3, r4, r5⟩ := s.rs k (by omega)
          have d1 : (quAt N.dqs k).ps = (quAt M.dqs k).ps := s.ds k (by omega)
          have u1 : (quAt N.uqs k).ps = (quAt M.uqs k).ps := s.us k (by omega)
          unfold nodeS reB
          rw [← e1, ← e2, ← r1, ← r2, ← r3, ← r4, ← r5, ← d1, ← u1, ← s.ps, ← s.ck]
        · have : ((N.un : Int) != (N.n : Int)) = true := by simp; omega
          simp [this]
      · have : ((N.dn : Int) != (N.n : Int)) = true := by simp; omega
        simp [this]
    · have : ((N.rn : Int) != (N.n : Int)) = true := by simp; omega
      simp [this]
  · have : ((N.en : Int) != (N.n : Int)) = true := by simp; omega
    simp [this]
theorem NetM.sim.flip {N M K : NetM} (s : N.sim M) (s' : N.sim K) : M.sim K :=
  ⟨s.n.symm.trans s'.n, s.ps.symm.trans s'.ps, s.t.symm.trans s'.t, s.z.symm.trans s'.z, s.sn.symm.trans s'.sn, s.ss.symm.trans s'.ss, s.ck.symm.trans s'.ck, s.q.symm.trans s'.q, s.hn.symm.trans s'.hn, s.hs.symm.trans s'.hs, s.en.symm.trans s'.en,
   fun k hk => by
    have hk : k < N.en := by have := s.en; omega
    obtain ⟨a1, a2⟩ := s.es k hk
    obtain ⟨b1, b2⟩ := s'.es k hk
    exact ⟨a1.symm.trans b1, a2.symm.trans b2⟩,
   s.rn.symm.trans s'.rn,
   fun k hk => by
    have hk : k < N.rn := by have := s.rn; omega
    obtain ⟨a1, a2, a3, a4, a5⟩ := s.rs k hk
    obtain ⟨b1, b2, b3, b4, b5⟩ := s'.rs k hk
    exact ⟨a1.symm.trans b1, a2.symm.trans b2, a3.symm.trans b3, a4.symm.trans b4, a5.symm.trans b5⟩,
   s.dn.symm.trans s'.dn,
   fun k hk => by
    have hk : k < N.dn := by have := s.dn; omega
    exact (show (quAt N.dqs k).ps = _ from s.ds k hk).symm.trans (s'.ds k hk),
   s.un.symm.trans s'.un,
   fun k hk => by
    have hk : k < N.un := by have := s.un; omega
    exact (show (quAt N.uqs k).ps = _ from s.us k hk).symm.trans (s'.us k hk)⟩
set_option maxRecDepth 100000 in
set_option maxHeartbeats 4000000 in
theorem w_IsValidNet (N : NetM) (w : World) (h : RdN w N) :
    Calls Tryz.prog 4 #[N.val] w fun e w' => e = .returned (.bool true) ∧ Bw w w' := by
  generalize hr : netB N = r
  have HR := Lib.hid hr
  clear hr
  have na := NB.new w 54 N N
  have kk := (Bw.refl w).alloc (.cells #[.slice N.B N.n N.d, .int .i64 N.t, .int .i64 N.z, .slice N.S N.sn N.sc, .int .i64 N.ck, .int .i64 N.q, .slice N.H N.hn N.hc, .slice N.E N.en N.ec, .slice N.R N.rn N.rc, .slice N.D N.dn N.dc, .slice N.U N.un N.uc] 54)
  rw [NetM.val]
  go_enter Tryz.func4, Tryz.ntmps4
  go_wp2_with fail
  refine (c_szNet N _ (h.keep kk)).mono ?_
  rintro e w1 ⟨⟨m, rfl, hmm⟩, hb1⟩
  have HM := Lib.hid hmm
  clear hmm
  have k1 := kk.trans hb1
  replace na := na.keep hb1
  have ⟨x0, x1, x2, x3, x4, x5, x6, x7, x8, x9, x10⟩ := na
  go_wp2_with fail
  · go_ret
    exact ⟨rfl, k1⟩
  have SM := Lib.hid (HM.out.resolve_left (by omega))
  clear x0 x1 x2 x3 x4 x5 x6 x7 x8 x9 x10
  refine (c_toNet N _ (h.keep k1) SM.out).mono ?_
  rintro e w2 ⟨⟨K, rfl, rdK, sim2⟩, hb2⟩
  replace na := na.keep hb2
  have ⟨x0, x1, x2, x3, x4, x5, x6, x7, x8, x9, x10⟩ := na
  go_wp2_with fail
  clear x0 x1 x2 x3 x4 x5 x6 x7 x8 x9 x10
  refine (c_sValidNet K ((netB_sim sim2).trans HR.out) _ rdK).mono ?_
  rintro e w3 ⟨rfl, hb3⟩
  replace na := na.keep hb3
  have k3 := (k1.trans hb2).trans hb3
  have ⟨x0, x1, x2, x3, x4, x5, x6, x7, x8, x9, x10⟩ := na
  go_wp2_with fail
  clear x0 x1 x2 x3 x4 x5 x6 x7 x8 x9 x10
  refine (c_toNet N _ (h.keep k3) SM.out).mono ?_
  rintro e w4 ⟨⟨M, rfl, rdM, sim4⟩, hb4⟩
  replace na := na.keep hb4
  have k4 := k3.trans hb4
  have nx := NB.new w4 37 N M
  have ax := (Bw.refl w4).alloc (.cells #[.slice M.B N.n M.d, .int .i64 N.t, .int .i64 N.z, .slice M.S N.sn M.sc, .int .i64 N.ck, .int .i64 N.q, .slice M.H N.hn M.hc, .slice M.E N.en M.ec, .slice M.R N.rn M.rc, .slice M.D N.dn M.dc, .slice M.U N.un M.uc] 37)
  rw [sim4.val]
  have ⟨x0, x1, x2, x3, x4, x5, x6, x7, x8, x9, x10⟩ := na
  go_wp2_with fail
  clear x0 x1 x2 x3 x4 x5 x6 x7 x8 x9 x10
  have hbb : (r != r) = false := by simp
  have cM := c_iValidNet M ((netB_sim sim4).trans HR.out) _ (rdM.keep ax)
  rw [sim4.val] at cM
  refine cM.mono ?_
  rintro e w5 ⟨rfl, hb5⟩
  have k45 := ax.trans hb5
  have k5 := k4.trans k45
  replace na := na.keep k45
  replace nx := nx.keep hb5
  have cE : ∀ (W : World) (K6 : NetM), Bw w5 W → RdN W K6 → N.sim K6 → Calls Tryz.prog 9 #[.agg #[.slice M.B N.n M.d, .int .i64 N.t, .int .i64 N.z, .slice M.S N.sn M.sc, .int .i64 N.ck, .int .i64 N.q, .slice M.H N.hn M.hc, .slice M.E N.en M.ec, .slice M.R N.rn M.rc, .slice M.D N.dn M.dc, .slice M.U N.un M.uc], K6.val] W fun e w' => e = .returned (.bool true) ∧ Bw W w' := fun W K6 b r s => by
    have := c_eqNet M K6 W (rdM.keep (k45.trans b)) r (sim4.flip s)
    rwa [sim4.val] at this
  go_wp2_with fail
  go_region_held3 (fun W => W.cell? ⟨w.heap.size, 0, none⟩ = some (.slice N.B N.n N.d) ∧ W.cell? ⟨w.heap.size, 1, none⟩ = some (.int .i64 N.t) ∧ W.cell? ⟨w.heap.size, 2, none⟩ = some (.int .i64 N.z) ∧ W.cell? ⟨w.heap.size, 3, none⟩ = some (.slice N.S N.sn N.sc) ∧ W.cell? ⟨w.heap.size, 4, none⟩ = some (.int .i64 N.ck) ∧ W.cell? ⟨w.heap.size, 5, none⟩ = some (.int .i64 N.q) ∧ W.cell? ⟨w.heap.size, 6, none⟩ = some (.slice N.H N.hn N.hc) ∧ W.cell? ⟨w.heap.size, 7, none⟩ = some (.slice N.E N.en N.ec) ∧ W.cell? ⟨w.heap.size, 8, none⟩ = some (.slice N.R N.rn N.rc) ∧ W.cell? ⟨w.heap.size, 9, none⟩ = some (.slice N.D N.dn N.dc) ∧ W.cell? ⟨w.heap.size, 10, none⟩ = some (.slice N.U N.un N.uc) ∧ W.cell? ⟨w4.heap.size, 0, none⟩ = some (.slice M.B N.n M.d) ∧ W.cell? ⟨w4.heap.size, 1, none⟩ = some (.int .i64 N.t) ∧ W.cell? ⟨w4.heap.size, 2, none⟩ = some (.int .i64 N.z) ∧ W.cell? ⟨w4.heap.size, 3, none⟩ = some (.slice M.S N.sn M.sc) ∧ W.cell? ⟨w4.heap.size, 4, none⟩ = some (.int .i64 N.ck) ∧ W.cell? ⟨w4.heap.size, 5, none⟩ = some (.int .i64 N.q) ∧ W.cell? ⟨w4.heap.size, 6, none⟩ = some (.slice M.H N.hn M.hc) ∧ W.cell? ⟨w4.heap.size, 7, none⟩ = some (.slice M.E N.en M.ec) ∧ W.cell? ⟨w4.heap.size, 8, none⟩ = some (.slice M.R N.rn M.rc) ∧ W.cell? ⟨w4.heap.size, 9, none⟩ = some (.slice M.D N.dn M.dc) ∧ W.cell? ⟨w4.heap.size, 10, none⟩ = some (.slice M.U N.un M.uc) ∧ Bw w5 W) (first | exact ⟨na.c0, na.c1, na.c2, na.c3, na.c4, na.c5, na.c6, na.c7, na.c8, na.c9, na.c10, nx.c0, nx.c1, nx.c2, nx.c3, nx.c4, nx.c5, nx.c6, nx.c7, nx.c8, nx.c9, nx.c10, Bw.drew (Bw.refl _)⟩ | exact ⟨hb6.cellv s0, hb6.cellv s1, hb6.cellv s2, hb6.cellv s3, hb6.cellv s4, hb6.cellv s5, hb6.cellv s6, hb6.cellv s7, hb6.cellv s8, hb6.cellv s9, hb6.cellv s10, hb6.cellv s11, hb6.cellv s12, hb6.cellv s13, hb6.cellv s14, hb6.cellv s15, hb6.cellv s16, hb6.cellv s17, hb6.cellv s18, hb6.cellv s19, hb6.cellv s20, hb6.cellv s21, hb6b⟩ | exact ⟨hb7.cellv r0, hb7.cellv r1, hb7.cellv r2, hb7.cellv r3, hb7.cellv r4, hb7.cellv r5, hb7.cellv r6, hb7.cellv r7, hb7.cellv r8, hb7.cellv r9, hb7.cellv r10, hb7.cellv r11, hb7.cellv r12, hb7.cellv r13, hb7.cellv r14, hb7.cellv r15, hb7.cellv r16, hb7.cellv r17, hb7.cellv r18, hb7.cellv r19, hb7.cellv r20, hb7.cellv r21, hb7b⟩ | (simp_all; done)) (first | ((have hS := ‹World.cell? _ _ = _ ∧ World.cell? _ _ = _ ∧ World.cell? _ _ = _ ∧ World.cell? _ _ = _ ∧ World.cell? _ _ = _ ∧ World.cell? _ _ = _ ∧ World.cell? _ _ = _ ∧ World.cell? _ _ = _ ∧ World.cell? _ _ = _ ∧ World.cell? _ _ = _ ∧ World.cell? _ _ = _ ∧ World.cell? _ _ = _ ∧ World.cell? _ _ = _ ∧ World.cell? _ _ = _ ∧ World.cell? _ _ = _ ∧ World.cell? _ _ = _ ∧ World.cell? _ _ = _ ∧ World.cell? _ _ = _ ∧ World.cell? _ _ = _ ∧ World.cell? _ _ = _ ∧ World.cell? _ _ = _ ∧ World.cell? _ _ = _ ∧ Bw w5 _›); (obtain ⟨s0, s1, s2, s3, s4, s5, s6, s7, s8, s9, s10, s11, s12, s13, s14, s15, s16, s17, s18, s19, s20, s21, sz⟩ := hS); (go_at_call 16); refine (c_toNet N _ (h.keep (k5.trans sz)) SM.out).mono ?_; rintro e w6 ⟨⟨M6, rfl, rd6, sim6⟩, hb6⟩; have hb6b := Bw.trans sz hb6) | ((have hS := ‹World.cell? _ _ = _ ∧ World.cell? _ _ = _ ∧ World.cell? _ _ = _ ∧ World.cell? _ _ = _ ∧ World.cell? _ _ = _ ∧ World.cell? _ _ = _ ∧ World.cell? _ _ = _ ∧ World.cell? _ _ = _ ∧ World.cell? _ _ = _ ∧ World.cell? _ _ = _ ∧ World.cell? _ _ = _ ∧ World.cell? _ _ = _ ∧ World.cell? _ _ = _ ∧ World.cell? _ _ = _ ∧ World.cell? _ _ = _ ∧ World.cell? _ _ = _ ∧ World.cell? _ _ = _ ∧ World.cell? _ _ = _ ∧ World.cell? _ _ = _ ∧ World.cell? _ _ = _ ∧ World.cell? _ _ = _ ∧ World.cell? _ _ = _ ∧ Bw w5 _›); (obtain ⟨r0, r1, r2, r3, r4, r5, r6, r7, r8, r9, r10, r11, r12, r13, r14, r15, r16, r17, r18, r19, r20, r21, rz⟩ := hS); (go_at_call 9); refine (cE _ M6 rz rd6 sim6).mono ?_; rintro e w7 ⟨rfl, hb7⟩; have hb7b := Bw.trans rz hb7))
  go_wp2
  go_ret
  exact ⟨rfl, k5.trans hb7b⟩
end Go.Proofs.YtpjljbhodnlhmaaGreatDoor
