
/- The law FnExactNewReceiver: the walk. -/
import Derived.Test.YtjhglleiieajaaaR7
namespace Go.Proofs.Ytjhglleiieajaaa
open Go.RowKit
theorem m_eqReceiver (c : Int) (w : World) : Calls Try.prog 45 #[.agg #[.bool false, .int .i64 c, .int .i64 0, .slice none 0 0, .slice none 0 0], .agg #[.bool false, .int .i64 c, .int .i64 0, .slice none 0 0, .slice none 0 0]] w fun e w' => e = .returned (.bool true) ∧ Bw w w' := n_eqReceiver c w
theorem m_markReceiver (c : Int) (w : World) : Calls Try.prog 46 #[.agg #[.bool false, .int .i64 c, .int .i64 0, .slice none 0 0, .slice none 0 0], .int .i64 1] w fun e w' => e = .returned (.int .i64 1) ∧ Bw w w' := n_markReceiver c w
theorem m_heldReceiver (c : Int) (w : World) : Calls Try.prog 47 #[.agg #[.bool false, .int .i64 c, .int .i64 0, .slice none 0 0, .slice none 0 0], .int .i64 1] w fun e w' => e = .returned (.int .i64 1) ∧ Bw w w' := n_heldReceiver c w
set_option maxRecDepth 100000 in
set_option maxHeartbeats 1000000 in
theorem w_NewReceiver (c : Int) (w : World) : Calls Try.prog 8 #[.int .i64 c] w fun e w' => e = .returned (.bool true) ∧ Bw w w' := by
  generalize hc : newRC c = cc
  generalize hd : inR c 0 9999 = d
  have HC := Lib.hid hc
  have HD := Lib.hid hd
  clear hc hd
  have Hr := Lib.hid (show rcv cc = .agg #[.bool false, .int .i64 cc, .int .i64 0, .slice none 0 0, .slice none 0 0] from rfl)
  go_enter Try.func8, Try.ntmps8
  go_wp2_with fail
  refine (c_sNewReceiver _ _).mono ?_
  rw [HC.out, HD.out, Hr.out]
  rintro e w1 ⟨rfl, hb1⟩
  have hs1 := hb1.size
  go_wp2_with fail
  refine (c_iNewReceiver _ _).mono ?_
  rw [HC.out, HD.out, Hr.out]
  rintro e w2 ⟨rfl, hb2⟩
  have hr2 := hb2.rule
  have hf2 := hb2.frz
  have hs2 : w1.heap.size < w2.heap.size := by have := hb2.size; simp at this; omega
  go_wp2_with fail
  refine (m_eqReceiver _ _).mono ?_
  rintro e w3 ⟨rfl, hb3⟩
  have hr3 := hb3.rule
  have hf3 := hb3.frz
  have hs3 : w2.heap.size < w3.heap.size := by have := hb3.size; simp at this; omega
  have ht3 : w1.heap.size < w3.heap.size := by omega
  go_wp2_with fail
  refine (m_markReceiver _ _).mono ?_
  rintro e w4 ⟨rfl, hb4⟩
  have hr4 := hb4.rule
  have hf4 := hb4.frz
  have hs4 : w2.heap.size < w4.heap.size := by have := hb4.size; omega
  have ht4 : w1.heap.size < w4.heap.size := by omega
  go_wp2_with fail
  refine (m_heldReceiver _ _).mono ?_
  rintro e w5 ⟨rfl, hb5⟩
  have hr5 := hb5.rule
  have hf5 := hb5.frz
  have hs5 : w2.heap.size < w5.heap.size := by have := hb5.size; omega
  have ht5 : w1.heap.size < w5.heap.size := by omega
  go_wp2_with fail
  refine (c_iNewReceiver _ _).mono ?_
  rw [HC.out, HD.out, Hr.out]
  rintro e w6 ⟨rfl, hb6⟩
  have hr6 := hb6.rule
  have hf6 := hb6.frz
  have hs6 : w2.heap.size < w6.heap.size := by have := hb6.size; omega
  have ht6 : w1.heap.size < w6.heap.size := by omega
  go_wp2_with fail
  refine (m_eqReceiver _ _).mono ?_
  rintro e w7 ⟨rfl, hb7⟩
  have hr7 := hb7.rule
  have hf7 := hb7.frz
  have hs7 : w2.heap.size < w7.heap.size := by have := hb7.size; simp at this; omega
  have ht7 : w1.heap.size < w7.heap.size := by omega
  go_wp2_with fail
  refine (m_heldReceiver _ _).mono ?_
  rintro e w8 ⟨rfl, hb8⟩
  go_wp2_with fail
  go_ret
  have k2 : Bw w w2 := Bw.trans (hb1.alloc _) hb2
  have k6 : Bw w w6 := Bw.trans (Bw.trans (Bw.trans (Bw.trans (k2.alloc _) hb3) hb4) hb5) hb6
  exact ⟨rfl, Bw.trans (Bw.trans (k6.alloc _) hb7) hb8⟩
end Go.Proofs.Ytjhglleiieajaaa
