
/- The law's own helpers at the elements, receivers and queues of a new network. -/
import Derived.Test.YtpjljbhodnlhmaaGreatDoorNN0
import Derived.Test.YtpjljbhodnlhmaaGreatDoorT12
import Derived.Test.YtpjljbhodnlhmaaGreatDoorK13
import Derived.Test.YtpjljbhodnlhmaaGreatDoorK1
namespace Go.Proofs.YtpjljbhodnlhmaaGreatDoor
open Go.RowKit
def rAt (rs : List (Bool × Int × Int)) (k : Nat) : Bool × Int × Int := rs.getD k (false, 0, 0)
theorem Rd.elF {w : World} {A : Option Addr} {n : Nat} {es : List Int} (h : Rd w A n 2 (es.map eE)) (hn : 0 < n) :
    ∃ b off, A = some ⟨b, off, none⟩ ∧ b < w.heap.size ∧ ∀ k, k < n → w.cell? ⟨b, off + k * 2, none⟩ = some (.int .i64 (intAt es k)) ∧ w.cell? ⟨b, off + k * 2 + 1, none⟩ = some (.slice none 0 0) := by
  obtain ⟨b, off, hA, hb, hc⟩ := h.at_ hn
  refine ⟨b, off, hA, hb, fun k hk => ?_⟩
  have hl : es.length = n := by simpa using h.len
  have hk' : k < es.length := by omega
  have hx : (es.map eE)[k]? = some (eE (intAt es k)) := by simp [intAt, hk']
  exact ⟨by simpa using hc k 0 _ _ hx rfl, by simpa using hc k 1 _ _ hx rfl⟩
theorem Rd.reF {w : World} {A : Option Addr} {n : Nat} {rs : List (Bool × Int × Int)} (h : Rd w A n 5 (rs.map eR)) (hn : 0 < n) :
    ∃ b off, A = some ⟨b, off, none⟩ ∧ b < w.heap.size ∧ ∀ k, k < n → w.cell? ⟨b, off + k * 5, none⟩ = some (.bool (rAt rs k).1) ∧ w.cell? ⟨b, off + k * 5 + 1, none⟩ = some (.int .i64 (rAt rs k).2.1) ∧ w.cell? ⟨b, off + k * 5 + 2, none⟩ = some (.int .i64 (rAt rs k).2.2) ∧ w.cell? ⟨b, off + k * 5 + 3, none⟩ = some (.slice none 0 0) ∧ w.cell? ⟨b, off + k * 5 + 4, none⟩ = some (.slice none 0 0) := by
  obtain ⟨b, off, hA, hb, hc⟩ := h.at_ hn
  refine ⟨b, off, hA, hb, fun k hk => ?_⟩
  have hl : rs.length = n := by simpa using h.len
  have hk' : k < rs.length := by omega
  have hx : (rs.map eR)[k]? = some (eR (rAt rs k)) := by simp [rAt, hk']
  exact ⟨by simpa using hc k 0 _ _ hx rfl, by simpa using hc k 1 _ _ hx rfl, by simpa using hc k 2 _ _ hx rfl, by simpa using hc k 3 _ _ hx rfl, by simpa using hc k 4 _ _ hx rfl⟩
theorem Rd.quF {w : World} {A : Option Addr} {n : Nat} {us : List Unit} (h : Rd w A n 1 (us.map eQ)) (hn : 0 < n) :
    ∃ b off, A = some ⟨b, off, none⟩ ∧ b < w.heap.size ∧ ∀ k, k < n → w.cell? ⟨b, off + k, none⟩ = some (.slice none 0 0) := by
  obtain ⟨b, off, hA, hb, hc⟩ := h.at_ hn
  refine ⟨b, off, hA, hb, fun k hk => ?_⟩
  have hl : us.length = n := by simpa using h.len
  have hk' : k < us.length := by omega
  have hx : (us.map eQ)[k]? = some (eQ ()) := by simp [hk']
  simpa using hc k 0 _ _ hx rfl
theorem n_markEntryS (k0 : Int) (w : World) : Calls Tryz.prog 62 #[.slice none 0 0, .int .i64 k0] w fun e w' => e = .returned (.int .i64 k0) ∧ w = w' := by
  go_enter Tryz.func62, Tryz.ntmps62
  go_wp2
  go_loop [1, 5] (fun kv i => kv = .int .i64 k0 ∧ i = .int .i64 0) (fun _ _ => 0)
  case atStart => exact ⟨rfl, rfl⟩
  case round =>
    obtain ⟨rfl, rfl⟩ := hrel
    go_wp2
    go_ret
    exact ⟨rfl, rfl⟩
theorem n_markSlotS (k0 : Int) (w : World) : Calls Tryz.prog 63 #[.slice none 0 0, .int .i64 k0] w fun e w' => e = .returned (.int .i64 k0) ∧ w = w' := by
  go_enter Tryz.func63, Tryz.ntmps63
  go_wp2
  go_loop [1, 5] (fun kv i => kv = .int .i64 k0 ∧ i = .int .i64 0) (fun _ _ => 0)
  case atStart => exact ⟨rfl, rfl⟩
  case round =>
    obtain ⟨rfl, rfl⟩ := hrel
    go_wp2
    go_ret
    exact ⟨rfl, rfl⟩
theorem n_markRequestS (k0 : Int) (w : World) : Calls Tryz.prog 64 #[.slice none 0 0, .int .i64 k0] w fun e w' => e = .returned (.int .i64 k0) ∧ w = w' := by
  go_enter Tryz.func64, Tryz.ntmps64
  go_wp2
  go_loop [1, 5] (fun kv i => kv = .int .i64 k0 ∧ i = .int .i64 0) (fun _ _ => 0)
  case atStart => exact ⟨rfl, rfl⟩
  case round =>
    obtain ⟨rfl, rfl⟩ := hrel
    go_wp2
    go_ret
    exact ⟨rfl, rfl⟩
theorem n_markPacketS (k0 : Int) (w : World) : Calls Tryz.prog 65 #[.slice none 0 0, .int .i64 k0] w fun e w' => e = .returned (.int .i64 k0) ∧ w = w' := by
  go_enter Tryz.func65, Tryz.ntmps65
  go_wp2
  go_loop [1, 5] (fun kv i => kv = .int .i64 k0 ∧ i = .int .i64 0) (fun _ _ => 0)
  case atStart => exact ⟨rfl, rfl⟩
  case round =>
    obtain ⟨rfl, rfl⟩ := hrel
    go_wp2
    go_ret
    exact ⟨rfl, rfl⟩
theorem n_heldEntryS (k0 : Int) (w : World) : Calls Tryz.prog 69 #[.slice none 0 0, .int .i64 k0] w fun e w' => e = .returned (.int .i64 k0) ∧ w = w' := by
  go_enter Tryz.func69, Tryz.ntmps69
  go_wp2
  go_loop [1, 5] (fun kv i => kv = .int .i64 k0 ∧ i = .int .i64 0) (fun _ _ => 0)
  case atStart => exact ⟨rfl, rfl⟩
  case round =>
    obtain ⟨rfl, rfl⟩ := hrel
    go_wp2
    go_ret
    exact ⟨rfl, rfl⟩
theorem n_heldSlotS (k0 : Int) (w : World) : Calls Tryz.prog 70 #[.slice none 0 0, .int .i64 k0] w fun e w' => e = .returned (.int .i64 k0) ∧ w = w' := by
  go_enter Tryz.func70, Tryz.ntmps70
  go_wp2
  go_loop [1, 5] (fun kv i => kv = .int .i64 k0 ∧ i = .int .i64 0) (fun _ _ => 0)
  case atStart => exact ⟨rfl, rfl⟩
  case round =>
    obtain ⟨rfl, rfl⟩ := hrel
    go_wp2
    go_ret
    exact ⟨rfl, rfl⟩
theorem n_heldRequestS (k0 : Int) (w : World) : Calls Tryz.prog 71 #[.slice none 0 0, .int .i64 k0] w fun e w' => e = .returned (.int .i64 k0) ∧ w = w' := by
  go_enter Tryz.func71, Tryz.ntmps71
  go_wp2
  go_loop [1, 5] (fun kv i => kv = .int .i64 k0 ∧ i = .int .i64 0) (fun _ _ => 0)
  case atStart => exact ⟨rfl, rfl⟩
  case round =>
    obtain ⟨rfl, rfl⟩ := hrel
    go_wp2
    go_ret
    exact ⟨rfl, rfl⟩
theorem n_heldPacketS (k0 : Int) (w : World) : Calls Tryz.prog 72 #[.slice none 0 0, .int .i64 k0] w fun e w' => e = .returned (.int .i64 k0) ∧ w = w' := by
  go_enter Tryz.func72, Tryz.ntmps72
  go_wp2
  go_loop [1, 5] (fun kv i => kv = .int .i64 k0 ∧ i = .int .i64 0) (fun _ _ => 0)
  case atStart => exact ⟨rfl, rfl⟩
  case round =>
    obtain ⟨rfl, rfl⟩ := hrel
    go_wp2
    go_ret
    exact ⟨rfl, rfl⟩
theorem n_eqEntryS (w : World) : Calls Tryz.prog 104 #[.slice none 0 0, .slice none 0 0] w fun e w' => e = .returned (.bool true) ∧ Bw w w' := by
  go_enter Tryz.func104, Tryz.ntmps104
  go_wp2
  go_loopw [5] (fun i wr => i = .int .i64 0 ∧ Bw w wr) (fun _ _ => 0)
  case atStart => exact ⟨rfl, Bw.refl _⟩
  case round =>
    obtain ⟨rfl, hb⟩ := hrel
    go_wp2
    go_ret
    exact ⟨rfl, hb⟩
theorem n_eqSlotS (w : World) : Calls Tryz.prog 142 #[.slice none 0 0, .slice none 0 0] w fun e w' => e = .returned (.bool true) ∧ Bw w w' := by
  go_enter Tryz.func142, Tryz.ntmps142
  go_wp2
  go_loopw [5] (fun i wr => i = .int .i64 0 ∧ Bw w wr) (fun _ _ => 0)
  case atStart => exact ⟨rfl, Bw.refl _⟩
  case round =>
    obtain ⟨rfl, hb⟩ := hrel
    go_wp2
    go_ret
    exact ⟨rfl, hb⟩
theorem n_eqRequestS (w : World) : Calls Tryz.prog 106 #[.slice none 0 0, .slice none 0 0] w fun e w' => e = .returned (.bool true) ∧ Bw w w' := by
  go_enter Tryz.func106, Tryz.ntmps106
  go_wp2
  go_loopw [5] (fun i wr => i = .int .i64 0 ∧ Bw w wr) (fun _ _ => 0)
  case atStart => exact ⟨rfl, Bw.refl _⟩
  case round =>
    obtain ⟨rfl, hb⟩ := hrel
    go_wp2
    go_ret
    exact ⟨rfl, hb⟩
theorem n_eqPacketS (w : World) : Calls Tryz.prog 59 #[.slice none 0 0, .slice none 0 0] w fun e w' => e = .returned (.bool true) ∧ Bw w w' := by
  go_enter Tryz.func59, Tryz.ntmps59
  go_wp2
  go_loopw [5] (fun i wr => i = .int .i64 0 ∧ Bw w wr) (fun _ _ => 0)
  case atStart => exact ⟨rfl, Bw.refl _⟩
  case round =>
    obtain ⟨rfl, hb⟩ := hrel
    go_wp2
    go_ret
    exact ⟨rfl, hb⟩
end Go.Proofs.YtpjljbhodnlhmaaGreatDoor
