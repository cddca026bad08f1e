
/- The law's own texts that mark memory. -/
import Derived.Test.YtpjljbhodnlhmaaGreatDoorS1
import Derived.Laws.BytesArg
namespace Go.Proofs.YtpjljbhodnlhmaaGreatDoor
open Go.RowKit
set_option maxRecDepth 100000 in
theorem c_markText (k0 : Int) (h0 : 0 ≤ k0) (h1 : k0 ≤ 1000000000) (w : World) :
    Calls Tryz.prog 109 #[.int .i64 k0] w fun e w' => (∃ s : ByteArray, e = .returned (.string s)) ∧ Bw w w' := by
  by_cases hz : k0 ≤ 0
  · go_enter Tryz.func109, Tryz.ntmps109
    go_wp2
    go_ret
    exact ⟨⟨_, rfl⟩, Bw.refl _⟩
  · go_enter Tryz.func109, Tryz.ntmps109
    go_wp2
    go_loopw [0, 3] (fun kv v wr => ∃ (k : Int) (s : ByteArray), kv = .int .i64 k ∧ v = .string s ∧ 0 ≤ k ∧ (s.size : Int) + k ≤ 1000000000 ∧ Bw w wr) (fun kv _ _ => (intOf kv).toNat)
    case atStart => exact ⟨k0, ByteArray.empty, rfl, rfl, h0, by simpa using h1, Bw.refl _⟩
    case round =>
      obtain ⟨k, s, rfl, rfl, hk0, hs, hbl⟩ := hrel
      by_cases hk : 0 < k
      · have hr : 0 ≤ k % 10 ∧ k % 10 ≤ 9 := by omega
        have hq : k.tmod 10 = k % 10 := Int.tmod_eq_emod_of_nonneg hk0
        have hd : k.tdiv 10 = k / 10 := Int.tdiv_eq_ediv_of_nonneg hk0
        have hcl : ∀ i, i < 1 → (wr.alloc (.cells #[.int .u8 (48 + k % 10)] 5)).cell? ⟨wr.heap.size, 0 + i, none⟩ = some (.int .u8 ([48 + k % 10].getD i 0)) := fun i hi => by
          obtain rfl : i = 0 := by omega
          simp
        have hconv : (convert 180 9 (.slice (some ⟨wr.heap.size, 0, none⟩) 1 1)).run Tryz.prog (wr.alloc (.cells #[.int .u8 (48 + k % 10)] 5)) = .ok (.string (strOfNums [48 + k % 10])) (wr.alloc (.cells #[.int .u8 (48 + k % 10)] 5)) :=
          run_convert_bytes_arg _ 180 5 Tryz.underlying180 Tryz.underlying5 wr.heap.size 0 1 1 [48 + k % 10] rfl (hcl) 9 Tryz.underlying9
        have hsz : (strOfNums [48 + k % 10]).size = 1 := rfl
        generalize strOfNums [48 + k % 10] = d at hconv hsz
        go_wp2
        exact ⟨⟨k / 10, d ++ s, rfl, rfl, by omega, by rw [ByteArray.size_append, hsz]; omega, by (repeat (first | with_reducible assumption | exact Bw.refl _ | (with_reducible refine Bw.setCell ?_ (by simp) _) | (with_reducible refine Bw.alloc ?_ _) | (with_reducible refine Bw.drew ?_) | (with_reducible refine Bw.drewN ?_ _)))⟩, by simp [intOf]; omega⟩
      · go_wp2
        go_ret
        exact ⟨⟨_, rfl⟩, hbl⟩
set_option maxRecDepth 100000 in
theorem c_markStringS (A : Option Addr) (n c : Nat) (ss : List ByteArray) (k0 : Int) (lo : Nat) (w : World) (hn : n ≤ 1048576) (hk0 : 0 ≤ k0) (hk1 : k0 ≤ 100000000) (h : Row w lo 9 1 scell A n c ss) :
    Calls Tryz.prog 108 #[.slice A n c, .int .i64 k0] w fun e w' => e = .returned (.int .i64 (k0 + n)) ∧ (∃ ss', Row w' lo 9 1 scell A n c ss') ∧ w.grownBy w' (Value.ownBlock (.slice A n c)) := by
  go_enter Tryz.func108, Tryz.ntmps108
  go_wp2
  go_loopw [1, 5] (fun kv i wr => ∃ (k : Nat) (ss' : List ByteArray), k ≤ n ∧ i = .int .i64 k ∧ kv = .int .i64 (k0 + k) ∧ Row wr lo 9 1 scell A n c ss' ∧ w.grownBy wr (Value.ownBlock (.slice A n c))) (fun _ i _ => n - (intOf i).toNat)
  case atStart => exact ⟨0, ss, Nat.zero_le _, rfl, by simp, h, World.grownBy.refl _ _⟩
  case round =>
    obtain ⟨k, ss', hk, rfl, rfl, hrow, hg⟩ := hrel
    by_cases hlt : k < n
    · go_wp2_with (go_at_call 109; refine (c_markText (k0 + k) (by omega) (by omega) _).mono ?_; rintro e w1 ⟨⟨s, rfl⟩, hb1⟩; have hrow1 := hrow.keep hb1; obtain ⟨g, rfl, hlo, hgl, hfz, hcc⟩ := hrow1.strs (by omega); have q0 := hcc k hlt; clear hcc)
      go_roundw
      case rel =>
        have hs := hrow1.set1 (t := s) (a := .string s) (fun _ => rfl) hlt rfl
        exact ⟨k + 1, _, by omega, by go_num, by congr 1; omega, hs.1, (hg.trans hb1.toGrown.weaken).trans hs.2⟩
      case measure => simp [intOf]; omega
    · go_wp2
      go_ret
      obtain rfl : k = n := by omega
      exact ⟨rfl, ⟨_, hrow⟩, hg⟩
end Go.Proofs.YtpjljbhodnlhmaaGreatDoor
