
/- Valid networks: the two sides. -/
import Derived.Test.YtpjljbhodnlhmaaGreatDoorNVA
import Derived.Test.YtpjljbhodnlhmaaGreatDoorNVB
import Derived.Test.YtpjljbhodnlhmaaGreatDoorNVC
namespace Go.Proofs.YtpjljbhodnlhmaaGreatDoor
open Go.RowKit
def nodeB (N : NetM) (k : Nat) : Bool := nodeS k (!hasI N.ps k) N.ck (elAt N.els k) (reAt N.res k) (quAt N.dqs k).ps (quAt N.uqs k).ps
/-- A network is valid. -/
def netB (N : NetM) : Bool := goodP N.ps && (srcB N.t N.z N.ss N.ck N.q N.hs && (!((N.en : Int) != (N.n : Int)) && (!((N.rn : Int) != (N.n : Int)) && (!((N.dn : Int) != (N.n : Int)) && (!((N.un : Int) != (N.n : Int)) && allB (nodeB N) N.n)))))
theorem c_isRightNodeB (N : NetM) (k : Nat) (w : World) (h : RdN w N) (he : k < N.en) (hr : k < N.rn) (hd : k < N.dn) (hu : k < N.un) {r : Bool} (hv : nodeB N k = r) :
    Calls Tryz.prog 51 #[N.val, .int .i64 (k : Int)] w fun e w' => e = .returned (.bool r) ∧ Bw w w' :=
  c_isRightNode N k w h he hr hd hu (by rw [node_same]; exact hv)
theorem c_l15At (N : NetM) (k : Nat) (w : World) (h : RdN w N) (hgood : goodP N.ps = true) (he : k < N.en) (hr : k < N.rn) (hd : k < N.dn) (hu : k < N.un) {r : Bool} (hv : nodeB N k = r) :
    Calls Tryz.prog 78 #[N.val, .int .i64 (k : Int)] w fun e w' => e = .returned (.bool r) ∧ Bw w w' := by
  cases hok : (elB (elAt N.els k).ck (elAt N.els k).es && (reB (reAt N.res k) && (quB false (quAt N.dqs k).ps && quB true (quAt N.uqs k).ps)))
  · exact c_l15AtD N k w h hgood hok he hr hd hu hv
  by_cases hk : k = 0
  · exact c_l15AtA N k w h hgood hok hk he hr hd hu hv
  cases hh : hasI N.ps k
  · exact c_l15AtB N k w h hgood hok hk hh he hr hd hu hv
  · exact c_l15AtC N k w h hgood hok hk hh he hr hd hu hv
set_option maxRecDepth 100000 in
set_option maxHeartbeats 1000000 in
theorem c_iValidNet (N : NetM) {r : Bool} (hr : netB N = r) (w : World) (h : RdN w N) :
    Calls Tryz.prog 17 #[N.val] w fun e w' => e = .returned (.bool r) ∧ Bw w w' := by
  subst hr
  have big := h.big
  have bign := big.n
  have kk := (Bw.refl w).alloc (.cells #[.slice N.B N.n N.d, .int .i64 N.t, .int .i64 N.z, .slice N.S N.sn N.sc, .int .i64 N.ck, .int .i64 N.q, .slice N.H N.hn N.hc, .slice N.E N.en N.ec, .slice N.R N.rn N.rc, .slice N.D N.dn N.dc, .slice N.U N.un N.uc] 37)
  have nb := NB.new w 37 N N
  rw [netB]
  generalize hg : goodP N.ps = g
  generalize hs : srcB N.t N.z N.ss N.ck N.q N.hs = s
  generalize h1 : ((N.en : Int) != (N.n : Int)) = b1
  generalize h2 : ((N.rn : Int) != (N.n : Int)) = b2
  generalize h3 : ((N.dn : Int) != (N.n : Int)) = b3
  generalize h4 : ((N.un : Int) != (N.n : Int)) = b4
  have HG := Lib.hid hg
  have HS := Lib.hid hs
  clear hg hs
  rw [NetM.val]
  cases g
  · go_enter Tryz.func17, Tryz.ntmps17
    go_wp2_with ((first | (go_at_call 24; refine (c_IsValidTree N.B N.n N.d N.ps HG.out _ big.n (h.tr.keep kk)).mono ?_; (rintro e w1 ⟨rfl, hb1⟩; replace kk := kk.trans hb1; replace nb := nb.keep hb1; have ⟨x0, x1, x2, x3, x4, x5, x6, x7, x8, x9, x10⟩ := nb)) | (go_at_call 50; refine (c_IsValidSource N.t N.z N.S N.sn N.sc N.ss h.fs N.ck N.q N.H N.hn N.hc N.hs HS.out _ big.sn big.hn (h.st.keep kk) (h.ho.keep kk)).mono ?_; (rintro e w1 ⟨rfl, hb1⟩; replace kk := kk.trans hb1; replace nb := nb.keep hb1; have ⟨x0, x1, x2, x3, x4, x5, x6, x7, x8, x9, x10⟩ := nb))))
    go_ret
    exact ⟨ret_bool rfl, kk⟩
  cases s
  · go_enter Tryz.func17, Tryz.ntmps17
    go_wp2_with ((first | (go_at_call 24; refine (c_IsValidTree N.B N.n N.d N.ps HG.out _ big.n (h.tr.keep kk)).mono ?_; (rintro e w1 ⟨rfl, hb1⟩; replace kk := kk.trans hb1; replace nb := nb.keep hb1; have ⟨x0, x1, x2, x3, x4, x5, x6, x7, x8, x9, x10⟩ := nb)) | (go_at_call 50; refine (c_IsValidSource N.t N.z N.S N.sn N.sc N.ss h.fs N.ck N.q N.H N.hn N.hc N.hs HS.out _ big.sn big.hn (h.st.keep kk) (h.ho.keep kk)).mono ?_; (rintro e w1 ⟨rfl, hb1⟩; replace kk := kk.trans hb1; replace nb := nb.keep hb1; have ⟨x0, x1, x2, x3, x4, x5, x6, x7, x8, x9, x10⟩ := nb))))
    go_ret
    exact ⟨ret_bool rfl, kk⟩
  cases b1
  case true =>
    go_enter Tryz.func17, Tryz.ntmps17
    go_wp2_with ((first | (go_at_call 24; refine (c_IsValidTree N.B N.n N.d N.ps HG.out _ big.n (h.tr.keep kk)).mono ?_; (rintro e w1 ⟨rfl, hb1⟩; replace kk := kk.trans hb1; replace nb := nb.keep hb1; have ⟨x0, x1, x2, x3, x4, x5, x6, x7, x8, x9, x10⟩ := nb)) | (go_at_call 50; refine (c_IsValidSource N.t N.z N.S N.sn N.sc N.ss h.fs N.ck N.q N.H N.hn N.hc N.hs HS.out _ big.sn big.hn (h.st.keep kk) (h.ho.keep kk)).mono ?_; (rintro e w1 ⟨rfl, hb1⟩; replace kk := kk.trans hb1; replace nb := nb.keep hb1; have ⟨x0, x1, x2, x3, x4, x5, x6, x7, x8, x9, x10⟩ := nb))))
    go_ret
    exact ⟨ret_bool rfl, kk⟩
  cases b2
  case true =>
    go_enter Tryz.func17, Tryz.ntmps17
    go_wp2_with ((first | (go_at_call 24; refine (c_IsValidTree N.B N.n N.d N.ps HG.out _ big.n (h.tr.keep kk)).mono ?_; (rintro e w1 ⟨rfl, hb1⟩; replace kk := kk.trans hb1; replace nb := nb.keep hb1; have ⟨x0, x1, x2, x3, x4, x5, x6, x7, x8, x9, x10⟩ := nb)) | (go_at_call 50; refine (c_IsValidSource N.t N.z N.S N.sn N.sc N.ss h.fs N.ck N.q N.H N.hn N.hc N.hs HS.out _ big.sn big.hn (h.st.keep kk) (h.ho.keep kk)).mono ?_; (rintro e w1 ⟨rfl, hb1⟩; replace kk := kk.trans hb1; replace nb := nb.keep hb1; have ⟨x0, x1, x2, x3, x4, x5, x6, x7, x8, x9, x10⟩ := nb))))
    go_ret
    exact ⟨ret_bool rfl, kk⟩
  cases b3
  case true =>
    go_enter Tryz.func17, Tryz.ntmps17
    go_wp2_with ((first | (go_at_call 24; refine (c_IsValidTree N.B N.n N.d N.ps HG.out _ big.n (h.tr.keep kk)).mono ?_; (rintro e w1 ⟨rfl, hb1⟩; replace kk := kk.trans hb1; replace nb := nb.keep hb1; have ⟨x0, x1, x2, x3, x4, x5, x6, x7, x8, x9, x10⟩ := nb)) | (go_at_call 50; refine (c_IsValidSource N.t N.z N.S N.sn N.sc N.ss h.fs N.ck N.q N.H N.hn N.hc N.hs HS.out _ big.sn big.hn (h.st.keep kk) (h.ho.keep kk)).mono ?_; (rintro e w1 ⟨rfl, hb1⟩; replace kk := kk.trans hb1; replace nb := nb.keep hb1; have ⟨x0, x1, x2, x3, x4, x5, x6, x7, x8, x9, x10⟩ := nb))))
    go_ret
    exact ⟨ret_bool rfl, kk⟩
  cases b4
  case true =>
    go_enter Tryz.func17, Tryz.ntmps17
    go_wp2_with ((first | (go_at_call 24; refine (c_IsValidTree N.B N.n N.d N.ps HG.out _ big.n (h.tr.keep kk)).mono ?_; (rintro e w1 ⟨rfl, hb1⟩; replace kk := kk.trans hb1; replace nb := nb.keep hb1; have ⟨x0, x1, x2, x3, x4, x5, x6, x7, x8, x9, x10⟩ := nb)) | (go_at_call 50; refine (c_IsValidSource N.t N.z N.S N.sn N.sc N.ss h.fs N.ck N.q N.H N.hn N.hc N.hs HS.out _ big.sn big.hn (h.st.keep kk) (h.ho.keep kk)).mono ?_; (rintro e w1 ⟨rfl, hb1⟩; replace kk := kk.trans hb1; replace nb := nb.keep hb1; have ⟨x0, x1, x2, x3, x4, x5, x6, x7, x8, x9, x10⟩ := nb))))
    go_ret
    exact ⟨ret_bool rfl, kk⟩
  have le := Lib.hid (show N.en = N.n by simp at h1; omega)
  have lr := Lib.hid (show N.rn = N.n by simp at h2; omega)
  have ld := Lib.hid (show N.dn = N.n by simp at h3; omega)
  have lu := Lib.hid (show N.un = N.n by simp at h4; omega)
  generalize hA : allB (nodeB N) N.n = res
  have HA := Lib.hid hA
  clear hA
  go_enter Tryz.func17, Tryz.ntmps17
  go_wp2_with ((first | (go_at_call 24; refine (c_IsValidTree N.B N.n N.d N.ps HG.out _ big.n (h.tr.keep kk)).mono ?_; (rintro e w1 ⟨rfl, hb1⟩; replace kk := kk.trans hb1; replace nb := nb.keep hb1; have ⟨x0, x1, x2, x3, x4, x5, x6, x7, x8, x9, x10⟩ := nb)) | (go_at_call 50; refine (c_IsValidSource N.t N.z N.S N.sn N.sc N.ss h.fs N.ck N.q N.H N.hn N.hc N.hs HS.out _ big.sn big.hn (h.st.keep kk) (h.ho.keep kk)).mono ?_; (rintro e w1 ⟨rfl, hb1⟩; replace kk := kk.trans hb1; replace nb := nb.keep hb1; have ⟨x0, x1, x2, x3, x4, x5, x6, x7, x8, x9, x10⟩ := nb))))
  go_loopw [48] (fun i wr => ∃ k : Nat, k ≤ N.n ∧ i = .int .i64 k ∧ (∀ j, j < k → nodeB N j = true) ∧ NB wr w.heap.size N N ∧ Bw w wr) (fun i _ => N.n - (intOf i).toNat)
  case atStart => exact ⟨0, Nat.zero_le _, rfl, fun j hj => absurd hj (by omega), nb, kk⟩
  case round =>
    obtain ⟨k, hk, rfl, hst, nbr, hbl⟩ := hrel
    have Hst := Lib.hid hst
    clear hst
    have ⟨y0, y1, y2, y3, y4, y5, y6, y7, y8, y9, y10⟩ := nbr
    by_cases hlt : k < N.n
    · cases hn : nodeB N k
      · have HN := Lib.hid hn
        have HX := Lib.hid (show res = false by rw [← HA.out]; exact allB_false hlt hn)
        clear hn
        go_wp2_with (go_at_call 51; refine (c_isRightNodeB N k _ (h.keep hbl)  (by rw [le.out]; exact hlt) (by rw [lr.out]; exact hlt) (by rw [ld.out]; exact hlt) (by rw [lu.out]; exact hlt) (HN.out)).mono ?_; rintro e w1 ⟨rfl, hb1⟩)
        go_ret
        exact ⟨ret_bool (by rw [HX.out]; rfl), hbl.trans hb1⟩
      · have HN := Lib.hid hn
        clear hn
        go_wp2_with (go_at_call 51; refine (c_isRightNodeB N k _ (h.keep hbl)  (by rw [le.out]; exact hlt) (by rw [lr.out]; exact hlt) (by rw [ld.out]; exact hlt) (by rw [lu.out]; exact hlt) (HN.out)).mono ?_; rintro e w1 ⟨rfl, hb1⟩)
        go_roundw
        case rel => exact ⟨k + 1, by omega, by go_num, upto Hst.out HN.out, nbr.keep hb1, hbl.trans hb1⟩
        case measure => simp [intOf]; omega
    · obtain rfl : k = N.n := by omega
      have HX := Lib.hid (show res = true by rw [← HA.out]; exact allB_true Hst.out)
      go_wp2
      go_ret
      exact ⟨ret_bool (by rw [HX.out]; rfl), hbl⟩
set_option maxRecDepth 100000 in
set_option maxHeartbeats 1000000 in
theorem c_l15Good (N : NetM) {r : Bool} (hr : netB N = r) (w : World) (h : RdN w N) :
    Calls Tryz.prog 45 #[N.val] w fun e w' => e = .returned (.bool r) ∧ Bw w w' := by
  subst hr
  have big := h.big
  have bign := big.n
  have kk := (Bw.refl w).alloc (.cells #[.slice N.B N.n N.d, .int .i64 N.t, .int .i64 N.z, .slice N.S N.sn N.sc, .int .i64 N.ck, .int .i64 N.q, .slice N.H N.hn N.hc, .slice N.E N.en N.ec, .slice N.R N.rn N.rc, .slice N.D N.dn N.dc, .slice N.U N.un N.uc] 37)
  have nb := NB.new w 37 N N
  rw [netB]
  generalize hg : goodP N.ps = g
  generalize hs : srcB N.t N.z N.ss N.ck N.q N.hs = s
  generalize h1 : ((N.en : Int) != (N.n : Int)) = b1
  generalize h2 : ((N.rn : Int) != (N.n : Int)) = b2
  generalize h3 : ((N.dn : Int) != (N.n : Int)) = b3
  generalize h4 : ((N.un : Int) != (N.n : Int)) = b4
  have HG := Lib.hid hg
  have HS := Lib.hid hs
  clear hg hs
  rw [NetM.val]
  cases g
  · go_enter Tryz.func45, Tryz.ntmps45
    go_wp2_with ((first | (go_at_call 20; refine (c_l6Good N.B N.n N.d N.ps HG.out _ big.n (h.tr.keep kk)).mono ?_; (rintro e w1 ⟨rfl, hb1⟩; replace kk := kk.trans hb1; replace nb := nb.keep hb1; have ⟨x0, x1, x2, x3, x4, x5, x6, x7, x8, x9, x10⟩ := nb)) | (go_at_call 52; refine (c_l11Good N.t N.z N.S N.sn N.sc N.ss h.fs N.ck N.q N.H N.hn N.hc N.hs HS.out _ big.sn big.hn (h.st.keep kk) (h.ho.keep kk)).mono ?_; (rintro e w1 ⟨rfl, hb1⟩; replace kk := kk.trans hb1; replace nb := nb.keep hb1; have ⟨x0, x1, x2, x3, x4, x5, x6, x7, x8, x9, x10⟩ := nb))))
    go_ret
    exact ⟨ret_bool rfl, kk⟩
  cases s
  · go_enter Tryz.func45, Tryz.ntmps45
    go_wp2_with ((first | (go_at_call 20; refine (c_l6Good N.B N.n N.d N.ps HG.out _ big.n (h.tr.keep kk)).mono ?_; (rintro e w1 ⟨rfl, hb1⟩; replace kk := kk.trans hb1; replace nb := nb.keep hb1; have ⟨x0, x1, x2, x3, x4, x5, x6, x7, x8, x9, x10⟩ := nb)) | (go_at_call 52; refine (c_l11Good N.t N.z N.S N.sn N.sc N.ss h.fs N.ck N.q N.H N.hn N.hc N.hs HS.out _ big.sn big.hn (h.st.keep kk) (h.ho.keep kk)).mono ?_; (rintro e w1 ⟨rfl, hb1⟩; replace kk := kk.trans hb1; replace nb := nb.keep hb1; have ⟨x0, x1, x2, x3, x4, x5, x6, x7, x8, x9, x10⟩ := nb))))
    go_ret
    exact ⟨ret_bool rfl, kk⟩
  cases b1
  case true =>
    go_enter Tryz.func45, Tryz.ntmps45
    go_wp2_with ((first | (go_at_call 20; refine (c_l6Good N.B N.n N.d N.ps HG.out _ big.n (h.tr.keep kk)).mono ?_; (rintro e w1 ⟨rfl, hb1⟩; replace kk := kk.trans hb1; replace nb := nb.keep hb1; have ⟨x0, x1, x2, x3, x4, x5, x6, x7, x8, x9, x10⟩ := nb)) | (go_at_call 52; refine (c_l11Good N.t N.z N.S N.sn N.sc N.ss h.fs N.ck N.q N.H N.hn N.hc N.hs HS.out _ big.sn big.hn (h.st.keep kk) (h.ho.keep kk)).mono ?_; (rintro e w1 ⟨rfl, hb1⟩; replace kk := kk.trans hb1; replace nb := nb.keep hb1; have ⟨x0, x1, x2, x3, x4, x5, x6, x7, x8, x9, x10⟩ := nb))))
    go_ret
    exact ⟨ret_bool rfl, kk⟩
  cases b2
  case true =>
    go_enter Tryz.func45, Tryz.ntmps45
    go_wp2_with ((first | (go_at_call 20; refine (c_l6Good N.B N.n N.d N.ps HG.out _ big.n (h.tr.keep kk)).mono ?_; (rintro e w1 ⟨rfl, hb1⟩; replace kk := kk.trans hb1; replace nb := nb.keep hb1; have ⟨x0, x1, x2, x3, x4, x5, x6, x7, x8, x9, x10⟩ := nb)) | (go_at_call 52; refine (c_l11Good N.t N.z N.S N.sn N.sc N.ss h.fs N.ck N.q N.H N.hn N.hc N.hs HS.out _ big.sn big.hn (h.st.keep kk) (h.ho.keep kk)).mono ?_; (rintro e w1 ⟨rfl, hb1⟩; replace kk := kk.trans hb1; replace nb := nb.keep hb1; have ⟨x0, x1, x2, x3, x4, x5, x6, x7, x8, x9, x10⟩ := nb))))
    go_ret
    exact ⟨ret_bool rfl, kk⟩
  cases b3
  case true =>
    go_enter Tryz.func45, Tryz.ntmps45
    go_wp2_with ((first | (go_at_call 20; refine (c_l6Good N.B N.n N.d N.ps HG.out _ big.n (h.tr.keep kk)).mono ?_; (rintro e w1 ⟨rfl, hb1⟩; replace kk := kk.trans hb1; replace nb := nb.keep hb1; have ⟨x0, x1, x2, x3, x4, x5, x6, x7, x8, x9, x10⟩ := nb)) | (go_at_call 52; refine (c_l11Good N.t N.z N.S N.sn N.sc N.ss h.fs N.ck N.q N.H N.hn N.hc N.hs HS.out _ big.sn big.hn (h.st.keep kk) (h.ho.keep kk)).mono ?_; (rintro e w1 ⟨rfl, hb1⟩; replace kk := kk.trans hb1; replace nb := nb.keep hb1; have ⟨x0, x1, x2, x3, x4, x5, x6, x7, x8, x9, x10⟩ := nb))))
    go_ret
    exact ⟨ret_bool rfl, kk⟩
  cases b4
  case true =>
    go_enter Tryz.func45, Tryz.ntmps45
    go_wp2_with ((first | (go_at_call 20; refine (c_l6Good N.B N.n N.d N.ps HG.out _ big.n (h.tr.keep kk)).mono ?_; (rintro e w1 ⟨rfl, hb1⟩; replace kk := kk.trans hb1; replace nb := nb.keep hb1; have ⟨x0, x1, x2, x3, x4, x5, x6, x7, x8, x9, x10⟩ := nb)) | (go_at_call 52; refine (c_l11Good N.t N.z N.S N.sn N.sc N.ss h.fs N.ck N.q N.H N.hn N.hc N.hs HS.out _ big.sn big.hn (h.st.keep kk) (h.ho.keep kk)).mono ?_; (rintro e w1 ⟨rfl, hb1⟩; replace kk := kk.trans hb1; replace nb := nb.keep hb1; have ⟨x0, x1, x2, x3, x4, x5, x6, x7, x8, x9, x10⟩ := nb))))
    go_ret
    exact ⟨ret_bool rfl, kk⟩
  have le := Lib.hid (show N.en = N.n by simp at h1; omega)
  have lr := Lib.hid (show N.rn = N.n by simp at h2; omega)
  have ld := Lib.hid (show N.dn = N.n by simp at h3; omega)
  have lu := Lib.hid (show N.un = N.n by simp at h4; omega)
  generalize hA : allB (nodeB N) N.n = res
  have HA := Lib.hid hA
  clear hA
  go_enter Tryz.func45, Tryz.ntmps45
  go_wp2_with ((first | (go_at_call 20; refine (c_l6Good N.B N.n N.d N.ps HG.out _ big.n (h.tr.keep kk)).mono ?_; (rintro e w1 ⟨rfl, hb1⟩; replace kk := kk.trans hb1; replace nb := nb.keep hb1; have ⟨x0, x1, x2, x3, x4, x5, x6, x7, x8, x9, x10⟩ := nb)) | (go_at_call 52; refine (c_l11Good N.t N.z N.S N.sn N.sc N.ss h.fs N.ck N.q N.H N.hn N.hc N.hs HS.out _ big.sn big.hn (h.st.keep kk) (h.ho.keep kk)).mono ?_; (rintro e w1 ⟨rfl, hb1⟩; replace kk := kk.trans hb1; replace nb := nb.keep hb1; have ⟨x0, x1, x2, x3, x4, x5, x6, x7, x8, x9, x10⟩ := nb))))
  go_loopw [4] (fun i wr => ∃ k : Nat, k ≤ N.n ∧ i = .int .i64 k ∧ (∀ j, j < k → nodeB N j = true) ∧ NB wr w.heap.size N N ∧ Bw w wr) (fun i _ => N.n - (intOf i).toNat)
  case atStart => exact ⟨0, Nat.zero_le _, rfl, fun j hj => absurd hj (by omega), nb, kk⟩
  case round =>
    obtain ⟨k, hk, rfl, hst, nbr, hbl⟩ := hrel
    have Hst := Lib.hid hst
    clear hst
    have ⟨y0, y1, y2, y3, y4, y5, y6, y7, y8, y9, y10⟩ := nbr
    by_cases hlt : k < N.n
    · cases hn : nodeB N k
      · have HN := Lib.hid hn
        have HX := Lib.hid (show res = false by rw [← HA.out]; exact allB_false hlt hn)
        clear hn
        go_wp2_with (go_at_call 78; refine (c_l15At N k _ (h.keep hbl) HG.out (by rw [le.out]; exact hlt) (by rw [lr.out]; exact hlt) (by rw [ld.out]; exact hlt) (by rw [lu.out]; exact hlt) (HN.out)).mono ?_; rintro e w1 ⟨rfl, hb1⟩)
        go_ret
        exact ⟨ret_bool (by rw [HX.out]; rfl), hbl.trans hb1⟩
      · have HN := Lib.hid hn
        clear hn
        go_wp2_with (go_at_call 78; refine (c_l15At N k _ (h.keep hbl) HG.out (by rw [le.out]; exact hlt) (by rw [lr.out]; exact hlt) (by rw [ld.out]; exact hlt) (by rw [lu.out]; exact hlt) (HN.out)).mono ?_; rintro e w1 ⟨rfl, hb1⟩)
        go_roundw
        case rel => exact ⟨k + 1, by omega, by go_num, upto Hst.out HN.out, nbr.keep hb1, hbl.trans hb1⟩
        case measure => simp [intOf]; omega
    · obtain rfl : k = N.n := by omega
      have HX := Lib.hid (show res = true by rw [← HA.out]; exact allB_true Hst.out)
      go_wp2
      go_ret
      exact ⟨ret_bool (by rw [HX.out]; rfl), hbl⟩
theorem c_sValidNet (N : NetM) {r : Bool} (hr : netB N = r) (w : World) (h : RdN w N) :
    Calls Tryz.prog 15 #[N.val] w fun e w' => e = .returned (.bool r) ∧ Bw w w' := by
  have nb := NB.new w 37 N N
  have kk := (Bw.refl w).alloc (.cells #[.slice N.B N.n N.d, .int .i64 N.t, .int .i64 N.z, .slice N.S N.sn N.sc, .int .i64 N.ck, .int .i64 N.q, .slice N.H N.hn N.hc, .slice N.E N.en N.ec, .slice N.R N.rn N.rc, .slice N.D N.dn N.dc, .slice N.U N.un N.uc] 37)
  rw [NetM.val]
  go_enter Tryz.func15, Tryz.ntmps15
  go_wp2_with (go_at_call 45; refine (c_l15Good N hr _ (h.keep kk)).mono ?_; rintro e w1 ⟨rfl, hb1⟩)
  go_ret
  exact ⟨rfl, kk.trans hb1⟩
end Go.Proofs.YtpjljbhodnlhmaaGreatDoor
