
/- The laws' own helpers at timers and at numbers: copies, equality, marks. -/
import Derived.Test.YtjejfkndiecmaaaK2
namespace Go.Proofs.Ytjejfkndiecmaaa
open Go.RowKit
theorem infoTimer : (Try.prog.info? 26).map (fun i => (i.zero, i.size, i.bytes)) = some (some (.agg #[.int .i64 0, .int .i64 0, .int .i64 0]), 3, 24) := by kernel_rfl
theorem Row.timer {w : World} {lo : Nat} {e : TypeId} {A : Option Addr} {n c : Nat} {ts : List Timer} (h : Row w lo e 3 Timer.cells A n c ts) (hn : 0 < n) :
    ∃ g, A = some ⟨g, 0, none⟩ ∧ lo ≤ g ∧ g < w.heap.size ∧ (∀ j, w.frozen? ⟨g, j, none⟩ = false) ∧ ∀ k, k < n → w.cell? ⟨g, k * 3, none⟩ = some (.int .i64 (tAt ts k).id) ∧ w.cell? ⟨g, k * 3 + 1, none⟩ = some (.int .i64 (tAt ts k).due) ∧ w.cell? ⟨g, k * 3 + 2, none⟩ = some (.int .i64 (tAt ts k).per) := by
  obtain ⟨g, rfl, hlo, hlt⟩ := h.form hn
  obtain ⟨b, off, hA, _, hc⟩ := (h.rd (enc := Timer.cells) (sz := 3) (fun _ => rfl)).timer hn
  simp only [Option.some.injEq, Addr.mk.injEq, and_true] at hA
  obtain ⟨rfl, rfl⟩ := hA
  exact ⟨g, rfl, hlo, hlt, fun j => h.frozen j, fun k hk => by simpa using hc k hk⟩
theorem c_rTimers (A A' : Option Addr) (n c c' : Nat) (ts : List Timer) (w : World) (hm : n ≤ 9223372036854775807) (h : Rd w A n 3 (ts.map Timer.cells)) (h' : Rd w A' n 3 (ts.map Timer.cells)) :
    Calls Try.prog 9 #[.slice A n c, .slice A' n c'] w fun e w' => e = .returned (.bool true) ∧ Bw w w' := by
  go_enter Try.func9, Try.ntmps9
  go_wp2
  go_loopw [5] (fun i wr => ∃ k : Nat, k ≤ n ∧ i = .int .i64 k ∧ Bw w wr) (fun i _ => n - (intOf i).toNat)
  case atStart => exact ⟨0, Nat.zero_le _, rfl, Bw.refl _⟩
  case round =>
    obtain ⟨k, hk, rfl, hbl⟩ := hrel
    by_cases hlt : k < n
    · obtain ⟨b, off, rfl, hb, hc⟩ := (h.keep hbl).timer (by omega)
      obtain ⟨b', off', rfl, hb', hc'⟩ := (h'.keep hbl).timer (by omega)
      have ⟨h0, h1, h2⟩ := hc k hlt
      have ⟨p0, p1, p2⟩ := hc' k hlt
      clear hc hc'
      go_wp2
      (refine wp_region_ext (by kernel_rfl) (by kernel_rfl) ?_; (repeat (go_big_quiet_step (fail))); (with_reducible refine wpQuiet_nil ?_); intro w2 hb2)
      go_wp2
      go_roundw
      case rel => exact ⟨k + 1, by omega, by go_num, hbl.trans hb2⟩
      case measure => simp [intOf]; omega
    · go_wp2
      go_ret
      exact ⟨rfl, hbl⟩
end Go.Proofs.Ytjejfkndiecmaaa
