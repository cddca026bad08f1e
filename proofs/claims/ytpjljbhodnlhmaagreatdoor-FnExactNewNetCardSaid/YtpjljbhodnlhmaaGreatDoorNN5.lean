
/- Marks in the elements, receivers and queues of a new network. -/
import Derived.Test.YtpjljbhodnlhmaaGreatDoorNN2
namespace Go.Proofs.YtpjljbhodnlhmaaGreatDoor
open Go.RowKit
theorem take_set {T : Type} {M L : List T} {k : Nat} (hk : k < M.length) (hl : L.length = M.length) (x : T) (hx : M[k]? = some x) : (M.take k ++ L.drop k).set k x = M.take (k + 1) ++ L.drop (k + 1) := by
  have h1 : (M.take k).length = k := by simp; omega
  rw [List.set_append_right _ _ (by omega), h1, Nat.sub_self, List.take_succ_eq_append_getElem hk, List.drop_eq_getElem_cons (by omega), List.set_cons_zero, List.append_assoc]
  obtain ⟨_, rfl⟩ := List.getElem?_eq_some_iff.1 hx
  simp
def marksR (n : Nat) (k0 : Int) : List (Bool × Int × Int) := (List.range n).map fun j : Nat => (k0 % 3 == 0, k0 + 3 * (j : Int) + 1, k0 + 3 * (j : Int) + 1 + 1)
theorem marksR_len (n : Nat) (k0 : Int) : (marksR n k0).length = n := by simp [marksR]
theorem marksR_get? (n : Nat) (k0 : Int) {k : Nat} (hk : k < n) : (marksR n k0)[k]? = some (k0 % 3 == 0, k0 + 3 * (k : Int) + 1, k0 + 3 * (k : Int) + 1 + 1) := by simp [marksR, hk]
theorem marksR_get (n : Nat) (k0 : Int) {k : Nat} (hk : k < n) : rAt (marksR n k0) k = (k0 % 3 == 0, k0 + 3 * (k : Int) + 1, k0 + 3 * (k : Int) + 1 + 1) := by
  rw [rAt, List.getD_eq_getElem?_getD, marksR_get? n k0 hk]; rfl
theorem marksI_get? (n : Nat) (k0 : Int) {k : Nat} (hk : k < n) : (marksI n k0)[k]? = some (k0 + k) := by
  have h := marksI_get n k0 k hk
  have hl := marksI_len n k0
  rw [intAt_lt (by omega)] at h
  rw [List.getElem?_eq_getElem (by omega), h]
theorem Row.at0 {T : Type} {w : World} {lo : Nat} {e : TypeId} {sz : Nat} {enc : T → List Value} {A : Option Addr} {n c : Nat} {ts : List T} (h : Row w lo e sz enc A n c ts) (hn : 0 < n) :
    ∃ g, A = some ⟨g, 0, none⟩ ∧ (∀ j, w.frozen? ⟨g, j, none⟩ = false) := by
  obtain ⟨g, rfl, _, _⟩ := h.form hn
  exact ⟨g, rfl, fun j => h.frozen j⟩
set_option maxRecDepth 100000 in
theorem n_markElementS (A : Option Addr) (n c : Nat) (es : List Int) (k0 : Int) (lo : Nat) (w : World) (hn : n ≤ 1048576) (hk0 : 0 ≤ k0) (hk1 : k0 ≤ 1000000000) (h : Row w lo 89 2 eE A n c es) :
    Calls Tryz.prog 33 #[.slice A n c, .int .i64 k0] w fun e w' => e = .returned (.int .i64 (k0 + n)) ∧ Row w' lo 89 2 eE A n c (marksI n k0) ∧ w.grownBy w' (Value.ownBlock (.slice A n c)) := by
  have hl := Lib.hid h.len
  have hml := Lib.hid (marksI_len n k0)
  go_enter Tryz.func33, Tryz.ntmps33
  go_wp2
  go_loopw [1, 5] (fun kv i wr => ∃ k : Nat, k ≤ n ∧ i = .int .i64 k ∧ kv = .int .i64 (k0 + k) ∧ Row wr lo 89 2 eE A n c ((marksI n k0).take k ++ es.drop k) ∧ w.grownBy wr (Value.ownBlock (.slice A n c))) (fun _ i _ => n - (intOf i).toNat)
  case atStart => exact ⟨0, Nat.zero_le _, rfl, by simp, by simpa using h, World.grownBy.refl _ _⟩
  case round =>
    obtain ⟨k, hk, rfl, rfl, hrow, hg⟩ := hrel
    by_cases hlt : k < n
    · obtain ⟨g, rfl, fz⟩ := hrow.at0 (by omega)
      obtain ⟨g', off', hA, _, hcc⟩ := (hrow.rd (fun _ => rfl)).elF (by omega)
      simp only [Option.some.injEq, Addr.mk.injEq, and_true] at hA
      obtain ⟨rfl, rfl⟩ := hA
      have ⟨q0, q1⟩ := hcc k hlt
      simp only [Nat.zero_add] at q0 q1
      clear hcc
      go_wp2_with (go_at_call 62; refine (n_markEntryS _ _).mono ?_; rintro e w1 ⟨rfl, rfl⟩)
      go_roundw
      case rel =>
        have hle : k < ((marksI n k0).take k ++ es.drop k).length := by have := hl.out; have := hml.out; simp; omega
        have hs := hrow.setAt (k := k) (j := 0) (t' := k0 + k) (v := .int .i64 (k0 + k)) (fun _ => rfl) hle (by omega) rfl
        refine ⟨k + 1, by omega, by go_num, by congr 1; omega, ?_, hg.trans hs.2⟩
        rw [← take_set (by have := hml.out; omega) (by have := hl.out; have := hml.out; omega) _ (marksI_get? n k0 hlt)]
        exact hs.1
      case measure => simp [intOf]; omega
    · go_wp2
      go_ret
      obtain rfl : k = n := by omega
      have hm := hml.out
      have ht := hl.out
      rw [List.take_of_length_le (by omega), List.drop_eq_nil_of_le (by omega), List.append_nil] at hrow
      exact ⟨rfl, hrow, hg⟩
theorem n_heldElementS (A : Option Addr) (n c : Nat) (k0 : Int) (w : World) (hn : n ≤ 1048576) (hk0 : 0 ≤ k0) (hk1 : k0 ≤ 1000000000) (h : Rd w A n 2 ((marksI n k0).map eE)) :
    Calls Tryz.prog 38 #[.slice A n c, .int .i64 k0] w fun e w' => e = .returned (.int .i64 (k0 + n)) ∧ w = w' := by
  go_enter Tryz.func38, Tryz.ntmps38
  go_wp2
  go_loop [1, 5] (fun kv i => ∃ k : Nat, k ≤ n ∧ i = .int .i64 k ∧ kv = .int .i64 (k0 + k)) (fun _ i => n - (intOf i).toNat)
  case atStart => exact ⟨0, Nat.zero_le _, rfl, by simp⟩
  case round =>
    obtain ⟨k, hk, rfl, rfl⟩ := hrel
    by_cases hlt : k < n
    · obtain ⟨b, off, rfl, hb, hc⟩ := h.elF (by omega)
      have ⟨h0, h1⟩ := hc k hlt
      rw [marksI_get _ _ _ hlt] at h0
      clear hc
      go_wp2_with (go_at_call 69; refine (n_heldEntryS _ _).mono ?_; rintro e w1 ⟨rfl, rfl⟩)
      go_round
      case rel => exact ⟨k + 1, by omega, by go_num, by congr 1; omega⟩
      case measure => simp [intOf]; omega
    · go_wp2
      go_ret
      obtain rfl : k = n := by omega
      exact ⟨rfl, rfl⟩
set_option maxRecDepth 100000 in
theorem n_markReceiverS (A : Option Addr) (n c : Nat) (rs : List (Bool × Int × Int)) (k0 : Int) (lo : Nat) (w : World) (hn : n ≤ 1048576) (hk0 : 0 ≤ k0) (hk1 : k0 ≤ 1000000000) (h : Row w lo 96 5 eR A n c rs) :
    Calls Tryz.prog 34 #[.slice A n c, .int .i64 k0] w fun e w' => e = .returned (.int .i64 (k0 + 3 * n)) ∧ Row w' lo 96 5 eR A n c (marksR n k0) ∧ w.grownBy w' (Value.ownBlock (.slice A n c)) := by
  have hl := Lib.hid h.len
  have hml := Lib.hid (marksR_len n k0)
  go_enter Tryz.func34, Tryz.ntmps34
  go_wp2
  go_loopw [1, 5] (fun kv i wr => ∃ k : Nat, k ≤ n ∧ i = .int .i64 k ∧ kv = .int .i64 (k0 + 3 * k) ∧ Row wr lo 96 5 eR A n c ((marksR n k0).take k ++ rs.drop k) ∧ w.grownBy wr (Value.ownBlock (.slice A n c))) (fun _ i _ => n - (intOf i).toNat)
  case atStart => exact ⟨0, Nat.zero_le _, rfl, by simp, by simpa using h, World.grownBy.refl _ _⟩
  case round =>
    obtain ⟨k, hk, rfl, rfl, hrow, hg⟩ := hrel
    by_cases hlt : k < n
    · obtain ⟨g, rfl, fz⟩ := hrow.at0 (by omega)
      obtain ⟨g', off', hA, _, hcc⟩ := (hrow.rd (fun _ => rfl)).reF (by omega)
      simp only [Option.some.injEq, Addr.mk.injEq, and_true] at hA
      obtain ⟨rfl, rfl⟩ := hA
      have ⟨q0, q1, q2, q3, q4⟩ := hcc k hlt
      simp only [Nat.zero_add] at q0 q1 q2 q3 q4
      clear hcc
      go_wp2_with (first | (refine (n_markSlotS _ _).mono ?_; rintro e w1 ⟨rfl, rfl⟩) | (refine (n_markRequestS _ _).mono ?_; rintro e w1 ⟨rfl, rfl⟩))
      go_roundw
      case rel =>
        have hle : k < ((marksR n k0).take k ++ rs.drop k).length := by have := hl.out; have := hml.out; simp; omega
        have s1 := hrow.setAt (k := k) (j := 0) (t' := (k0 % 3 == 0, ((marksR n k0).take k ++ rs.drop k)[k].2.1, ((marksR n k0).take k ++ rs.drop k)[k].2.2)) (v := .bool (k0 % 3 == 0)) (fun _ => rfl) hle (by omega) rfl
        have s2 := s1.1.setAt (k := k) (j := 1) (t' := (k0 % 3 == 0, k0 + 3 * (k : Int) + 1, ((marksR n k0).take k ++ rs.drop k)[k].2.2)) (v := .int .i64 (k0 + 3 * (k : Int) + 1)) (fun _ => rfl) (by simpa using hle) (by omega) (by rw [List.getElem_set_self]; rfl)
        have s3 := s2.1.setAt (k := k) (j := 2) (t' := (k0 % 3 == 0, k0 + 3 * (k : Int) + 1, k0 + 3 * (k : Int) + 1 + 1)) (v := .int .i64 (k0 + 3 * (k : Int) + 1 + 1)) (fun _ => rfl) (by simpa using hle) (by omega) (by rw [List.getElem_set_self]; rfl)
        rw [List.set_set, List.set_set] at s3
        refine ⟨k + 1, by omega, by go_num, by congr 1; omega, ?_, ((hg.trans s1.2).trans s2.2).trans s3.2⟩
        rw [← take_set (by have := hml.out; omega) (by have := hl.out; have := hml.out; omega) _ (marksR_get? n k0 hlt)]
        exact s3.1
      case measure => simp [intOf]; omega
    · go_wp2
      go_ret
      obtain rfl : k = n := by omega
      have hm := hml.out
      have ht := hl.out
      rw [List.take_of_length_le (by omega), List.drop_eq_nil_of_le (by omega), List.append_nil] at hrow
      exact ⟨rfl, hrow, hg⟩
set_option maxRecDepth 100000 in
theorem n_heldReceiverS (A : Option Addr) (n c : Nat) (k0 : Int) (w : World) (hn : n ≤ 1048576) (hk0 : 0 ≤ k0) (hk1 : k0 ≤ 1000000000) (h : Rd w A n 5 ((marksR n k0).map eR)) :
    Calls Tryz.prog 39 #[.slice A n c, .int .i64 k0] w fun e w' => e = .returned (.int .i64 (k0 + 3 * n)) ∧ w = w' := by
  go_enter Tryz.func39, Tryz.ntmps39
  go_wp2
  go_loop [1, 5] (fun kv i => ∃ k : Nat, k ≤ n ∧ i = .int .i64 k ∧ kv = .int .i64 (k0 + 3 * k)) (fun _ i => n - (intOf i).toNat)
  case atStart => exact ⟨0, Nat.zero_le _, rfl, by simp⟩
  case round =>
    obtain ⟨k, hk, rfl, rfl⟩ := hrel
    by_cases hlt : k < n
    · obtain ⟨b, off, rfl, hb, hc⟩ := h.reF (by omega)
      have ⟨h0, h1, h2, h3, h4⟩ := hc k hlt
      rw [marksR_get _ _ hlt] at h0 h1 h2
      clear hc
      have hself : ∀ b : Bool, (b != b) = false := fun b => by simp
      have hnn : 0 ≤ k0 + 3 * (k : Int) + 1 + 1 + 1 := by omega
      go_wp2_with (first | (refine (n_heldSlotS _ _).mono ?_; rintro e w1 ⟨rfl, rfl⟩) | (refine (n_heldRequestS _ _).mono ?_; rintro e w1 ⟨rfl, rfl⟩))
      go_round
      case rel => exact ⟨k + 1, by omega, by go_num, by congr 1; omega⟩
      case measure => simp [intOf]; omega
    · go_wp2
      go_ret
      obtain rfl : k = n := by omega
      exact ⟨rfl, rfl⟩
theorem n_markPacketSS (A : Option Addr) (n c : Nat) (us : List Unit) (k0 : Int) (w : World) (hn : n ≤ 1048576) (hk0 : 0 ≤ k0) (h : Rd w A n 1 (us.map eQ)) :
    Calls Tryz.prog 35 #[.slice A n c, .int .i64 k0] w fun e w' => e = .returned (.int .i64 k0) ∧ w = w' := by
  have _ := hk0
  go_enter Tryz.func35, Tryz.ntmps35
  go_wp2
  go_loop [1, 5] (fun kv i => ∃ k : Nat, k ≤ n ∧ i = .int .i64 k ∧ kv = .int .i64 k0) (fun _ i => n - (intOf i).toNat)
  case atStart => exact ⟨0, Nat.zero_le _, rfl, rfl⟩
  case round =>
    obtain ⟨k, hk, rfl, rfl⟩ := hrel
    by_cases hlt : k < n
    · obtain ⟨b, off, rfl, hb, hc⟩ := h.quF (by omega)
      have h0 := hc k hlt
      clear hc
      go_wp2_with (first | (refine (n_markPacketS _ _).mono ?_; rintro e w1 ⟨rfl, rfl⟩) | (refine (n_heldPacketS _ _).mono ?_; rintro e w1 ⟨rfl, rfl⟩))
      go_round
      case rel => exact ⟨k + 1, by omega, by go_num, rfl⟩
      case measure => simp [intOf]; omega
    · go_wp2
      go_ret
      exact ⟨rfl, rfl⟩
theorem n_heldPacketSS (A : Option Addr) (n c : Nat) (us : List Unit) (k0 : Int) (w : World) (hn : n ≤ 1048576) (hk0 : 0 ≤ k0) (h : Rd w A n 1 (us.map eQ)) :
    Calls Tryz.prog 40 #[.slice A n c, .int .i64 k0] w fun e w' => e = .returned (.int .i64 k0) ∧ w = w' := by
  have _ := hk0
  go_enter Tryz.func40, Tryz.ntmps40
  go_wp2
  go_loop [1, 5] (fun kv i => ∃ k : Nat, k ≤ n ∧ i = .int .i64 k ∧ kv = .int .i64 k0) (fun _ i => n - (intOf i).toNat)
  case atStart => exact ⟨0, Nat.zero_le _, rfl, rfl⟩
  case round =>
    obtain ⟨k, hk, rfl, rfl⟩ := hrel
    by_cases hlt : k < n
    · obtain ⟨b, off, rfl, hb, hc⟩ := h.quF (by omega)
      have h0 := hc k hlt
      clear hc
      go_wp2_with (first | (refine (n_markPacketS _ _).mono ?_; rintro e w1 ⟨rfl, rfl⟩) | (refine (n_heldPacketS _ _).mono ?_; rintro e w1 ⟨rfl, rfl⟩))
      go_round
      case rel => exact ⟨k + 1, by omega, by go_num, rfl⟩
      case measure => simp [intOf]; omega
    · go_wp2
      go_ret
      exact ⟨rfl, rfl⟩
end Go.Proofs.YtpjljbhodnlhmaaGreatDoor
